/-
  Texts of this claim, put together: Join, WireSpec, Number, Texts, Bytes, RefNum.
-/
import Derived.Test.YtkedmpppfejofaaZ1
set_option linter.unusedVariables false
set_option linter.unusedSimpArgs false
namespace Go.Proofs.Ytkedmpppfejofaa
open Go.RowKit

theorem flat_take_succ {α : Type} (ls : List (List α)) (k : Nat) (hk : k < ls.length) : (ls.take (k + 1)).flatten = (ls.take k).flatten ++ ls[k] := by
  rw [List.take_succ_eq_append_getElem hk, List.flatten_append]; simp
theorem flat_take_le {α : Type} (ls : List (List α)) (k : Nat) : (ls.take k).flatten.length ≤ ls.flatten.length := by
  conv => rhs; rw [← List.take_append_drop k ls, List.flatten_append, List.length_append]
  omega

/-- How many there are in all. -/
def flen {α : Type} (ls : List (List α)) : Nat := ls.flatten.length
theorem flen_succ {α : Type} (ls : List (List α)) (k : Nat) (hk : k < ls.length) : flen (ls.take (k + 1)) = flen (ls.take k) + ls[k].length := by
  unfold flen; rw [flat_take_succ ls k hk, List.length_append]

set_option maxHeartbeats 400000 in
theorem Join_calls (w : World) (S : Nat → Prop) (v : Value) (ls : List (List UInt8)) (hr : Rs (kSlice kByte) w S v ls) (hsz : flen ls ≤ 140737488355328) :
    Calls Try.prog 52 #[v] w fun e w' => ∃ u, e = .returned u ∧ Ow kByte 5 w' w.heap.size (w.heap.size ≤ ·) u ls.flatten ∧ Ext w w' := by
  obtain ⟨A, c, rfl, hl, hc, hzl, hrow⟩ := hr.under
  have HR := Lib.hid hrow
  clear hrow hr
  have hmk : ∀ W : World, (Instr.makeSlice 56 (.int .i64 0) (.int .i64 (flen ls : Int))).run Try.prog W = .ok (.slice (some ⟨W.heap.size, 0, none⟩) 0 (flen ls)) (W.alloc (.cells (madeCells #[.int .u8 0] (flen ls)) 5)) := fun W => by
    obtain ⟨i, hi, hz0, hz1, hz2⟩ := info_parts tBytes.info
    have h := run_make (P := Try.prog) W 56 5 i (.int .u8 0) tBytes.under hi hz0 .i64 .i64 0 (flen ls : Int) (by omega) (by omega) (by rw [hz2]; omega) (by omega)
    simpa [hz1, Value.cells] using h
  have Hmk := Lib.hid hmk
  clear hmk
  go_enter Try.func52, Try.ntmps52
  go_wp2
  go_loop [3, 11] (fun n i => ∃ k : Nat, k ≤ ls.length ∧ i = .int .i64 k ∧ n = .int .i64 (flen (ls.take k) : Int)) (fun _ i => ls.length - (intOf i).toNat)
  case atStart => exact ⟨0, Nat.zero_le _, rfl, rfl⟩
  case round =>
    obtain ⟨k, hk, rfl, rfl⟩ := hrel
    by_cases hlt : k < ls.length
    · obtain ⟨ad, u, rfl, hcell, hu⟩ := HR.out.slice hlt
      obtain ⟨A1, c1, rfl, hl1, hc1, hz1, hrow1⟩ := hu
      have h1 : flen (ls.take (k + 1)) ≤ flen ls := flat_take_le ls (k + 1)
      have h2 := flen_succ ls k hlt
      have H2 := Lib.hid h2
      have h3 : flen (ls.take k) + ls[k].length ≤ 140737488355328 := by omega
      clear hrow1 h1 h2
      go_wp2
      go_round
      case rel => exact ⟨k + 1, by omega, by go_num, by rw [H2.out]; go_num⟩
      case measure => simp [intOf]; omega
    · obtain rfl : k = ls.length := by omega
      rw [List.take_length]
      clear hlt
      have hmk := Hmk.out
      go_wp2
      go_loopw [6, 24] (fun u i wr => ∃ k : Nat, k ≤ ls.length ∧ i = .int .i64 k ∧ Hid (Ow kByte 5 wr w.heap.size (w.heap.size ≤ ·) u (ls.take k).flatten) ∧ Hid (Ext w wr)) (fun _ i _ => ls.length - (intOf i).toNat)
      case atStart => 
        refine ⟨0, Nat.zero_le _, rfl, ?_, Lib.hid ((Ext.refl w).alloc _)⟩
        refine Lib.hid ⟨fun k hk => by simp [Value.ownBlock] at hk; omega, by simp, [], World.ownsRow_made w _ (flen ls) (Nat.le_refl _) (by simp only [maxLen]; omega) (by simp [size_madeCells, kByte, Kd.scalar]), fun j x hj => by simp at hj⟩
      case round =>
        obtain ⟨k, hk, rfl, HO, HE⟩ := hrel
        by_cases hlt : k < ls.length
        · have hrow2 := HR.out.keep (w' := wr) fun b hb _ => HE.out.block b hb
          obtain ⟨ad, u, rfl, hcell, hu⟩ := hrow2.slice hlt
          have HU := Lib.hid hu
          have h1 : flen (ls.take (k + 1)) ≤ flen ls := flat_take_le ls (k + 1)
          have h2 := flen_succ ls k hlt
          have h3 : flen (ls.take k) + ls[k].length ≤ 140737488355328 := by omega
          have H3 := Lib.hid h3
          clear h1 h2 h3 hrow2 hu
          have HS := Lib.hid (flat_take_succ ls k hlt)
          go_wp2_with (at_builtin; refine wpList_append_Rs kByte rfl (.tmp 28) (.tmp 29) 56 5 rfl tBytes w.heap.size _ _ _ _ _ _ rfl rfl HO.out HU.out ?c1 ?c2 ?c3 HE.out.le ?_)
          case c1 => exact fun _ _ h => h
          case c2 => intro b hb; have := HE.out.le; omega
          case c3 => have := H3.out; unfold flen at this; omega
          intro v' w' ho hg hat
          have HO' := Lib.hid ho
          have HE' := Lib.hid (HE.out.grown hg HO.out.from_)
          rw [← HS.out] at HO'
          clear ho hg hat HO HE
          go_wp2
          go_roundw
          case rel => exact ⟨k + 1, by omega, by go_num, HO', HE'⟩
          case measure => simp [intOf]; omega
        · obtain rfl : k = ls.length := by omega
          rw [List.take_length] at HO
          clear hlt
          go_wp2
          go_ret
          exact ⟨_, rfl, HO.out, HE.out⟩
end Go.Proofs.Ytkedmpppfejofaa
set_option linter.unusedVariables false
set_option linter.unusedSimpArgs false
namespace Go.Proofs.Ytkedmpppfejofaa

/-- A number's higher groups, each with the mark that more follow. -/
def hi (n : Nat) : List UInt8 := if h : n = 0 then [] else hi (n / 128) ++ [byt (128 + n % 128)]
termination_by n
decreasing_by omega
/-- A number's bytes. -/
def digs (n : Nat) : List UInt8 := hi (n / 128) ++ [byt (n % 128)]
theorem hi_zero : hi 0 = [] := by rw [hi]; simp
theorem hi_pos (n : Nat) (h : 0 < n) : hi n = hi (n / 128) ++ [byt (128 + n % 128)] := by rw [hi]; rw [dif_neg (by omega)]
theorem hi_len (j : Nat) : ∀ n, n < 128 ^ j → (hi n).length ≤ j := by
  induction j with
  | zero => intro n h; have : n = 0 := by simpa using h
            subst this; simp [hi_zero]
  | succ j ih =>
    intro n h
    rcases Nat.eq_zero_or_pos n with h0 | h0
    · subst h0; simp [hi_zero]
    · rw [hi_pos n h0, List.length_append, List.length_singleton]
      have := ih (n / 128) (Nat.div_lt_of_lt_mul (by rw [Nat.pow_succ] at h; omega))
      omega
theorem digs_len (n : Nat) (h : n ≤ 9223372036854775807) : 1 ≤ (digs n).length ∧ (digs n).length ≤ 9 := by
  unfold digs
  rw [List.length_append, List.length_singleton]
  have := hi_len 8 (n / 128) (by omega)
  omega
end Go.Proofs.Ytkedmpppfejofaa
set_option linter.unusedVariables false
set_option linter.unusedSimpArgs false
namespace Go.Proofs.Ytkedmpppfejofaa
open Go.RowKit

/-- The array of a number's groups: what is not written yet, and what is. -/
def grp (i : Nat) (acc : List UInt8) : Array Value := (List.replicate i (Value.int .u8 0) ++ acc.map encB).toArray
theorem grp_set (i : Nat) (b : UInt8) (acc : List UInt8) : (grp (i + 1) acc).setIfInBounds i (encB b) = grp i (b :: acc) := by
  unfold grp
  rw [List.setIfInBounds_toArray, List.set_append_left _ _ (by simp), List.replicate_succ', List.set_append_right _ _ (by simp)]
  simp
theorem grp_at (i : Nat) (acc : List UInt8) (j : Nat) (x : UInt8) (h : acc[j]? = some x) : (grp i acc)[i + j]? = some (.int .u8 (x.toNat : Int)) := by
  unfold grp
  rw [List.getElem?_toArray, List.getElem?_append_right (by simp)]
  simp [h, encB]

theorem bv_i64 (a : Nat) (ha : a < 9223372036854775808) : (BitVec.ofInt 64 (a : Int)).toNat = a := by
  rw [BitVec.ofInt_natCast, BitVec.toNat_ofNat]; exact Nat.mod_eq_of_lt (by omega)
theorem and127 (m : Nat) (h : m < 9223372036854775808) : bits .and .i64 (m : Int) 127 = ((m % 128 : Nat) : Int) := by
  have hx : m &&& 127 = m % 128 := by
    rw [show (127 : Nat) = 2 ^ 7 - 1 from rfl, Nat.and_two_pow_sub_one_eq_mod]
  show IntKind.i64.wrap ((BitVec.ofInt 64 (m : Int) &&& BitVec.ofInt 64 ((127 : Nat) : Int)).toNat : Int) = _
  rw [BitVec.toNat_and, bv_i64 m h, bv_i64 127 (by omega), hx, IntKind.wrap_i64]
  omega
theorem or128 (m : Nat) (h : m < 128) : bits .or .u8 (m : Int) 128 = ((128 + m : Nat) : Int) := by
  have : ∀ k : Fin 128, bits .or .u8 (k.val : Int) 128 = ((128 + k.val : Nat) : Int) := by decide +kernel
  exact this ⟨m, h⟩
theorem low_cell (m : Nat) (h : m < 9223372036854775808) : Value.int .u8 (bits .and .i64 (m : Int) 127 % 256) = encB (byt (m % 128)) := by
  rw [and127 m h, encB, byt_toNat]
  congr 1

theorem high_cell (m : Nat) (h : m < 9223372036854775808) : Value.int .u8 (bits .or .u8 (bits .and .i64 (m : Int) 127 % 256) 128) = encB (byt (128 + m % 128)) := by
  rw [and127 m h, encB, byt_toNat, show ((m % 128 : Nat) : Int) % 256 = ((m % 128 : Nat) : Int) by omega, or128 _ (by omega)]
  congr 1
  omega

theorem arr9 : Try.prog.underlying 97 = some (.array 9 5) := by kernel_rfl
theorem slice_arr (P : Program) (t e n : Nat) (info : TypeInfo) (ht : P.underlying t = some (.array n e)) (hi : P.info? e = some info) (h1 : info.size = 1) (g i : Nat) (hin : i < n) (W : World) :
    (Instr.sliceAt t (.pointer (some ⟨g, 0, none⟩)) (some (.int .i64 (i : Int))) none none).run P W = .ok (.slice (some ⟨g, i, none⟩) (n - i) (n - i)) W := by
  have hb : (Instr.sliceBound (.int .i64 (i : Int)) n .sliceB).run P W = .ok i W := by
    have := @run_sliceBound P W .i64 (i : Int) n .sliceB (by omega) (by omega)
    simpa using this
  have hne : ¬ n = i := by omega
  simp [Instr.sliceAt, Instr.sureAddr, run_underlying ht, Instr.sliceBounds, hb, sizeOf, typeInfo, hi, h1, hne, add_lit0]

set_option maxHeartbeats 400000 in
theorem Number_nat (w : World) (S : Nat → Prop) (v : Value) (bs : List UInt8) (n : Nat) (hr : Rs kByte w S v bs) (hn : n ≤ 9223372036854775807) (hsz : bs.length + 9 ≤ 140737488355328) (z : Int) (hz : (n : Int) = max z 0) (hz1 : z ≤ n):
    Calls Try.prog 40 #[v, .int .i64 z] w fun e w' => ∃ u, e = .returned u ∧ Ow kByte 5 w' w.heap.size (w.heap.size ≤ ·) u (bs ++ digs n) ∧ Ext w w' := by
  have HR := Lib.hid hr.under
  clear hr
  obtain ⟨A, c, rfl, hl, hc, hzl, hrow⟩ := HR.out
  clear hrow
  have Hz := Lib.hid hz
  clear hz
  have hmx : (if z < 0 then 0 else z) = (n : Int) := by rw [Hz.out]; split <;> omega
  go_enter Try.func40, Try.ntmps40
  go_wp2
  have hlow := low_cell n (by omega)
  rw [hlow]
  go_loopw [1, 6] (fun x y wr => ∃ (m i : Nat) (acc : List UInt8), x = .int .i64 m ∧ y = .int .i64 i ∧ acc.length + i = 9 ∧ i ≤ 8 ∧ m < 128 ^ i ∧ Hid (hi m ++ acc = digs n) ∧
    Hid (wr.heap[w.heap.size]? = some (.cells (grp i acc) 97 (0, 0))) ∧ Hid (Ext w wr)) (fun x _ _ => (intOf x).toNat)
  case atStart =>
    refine ⟨n / 128, 8, [byt (n % 128)], by go_num, rfl, rfl, by omega, by omega, Lib.hid rfl, Lib.hid ?_, Lib.hid ((Ext.refl w).alloc _)⟩
    exact heap_alloc_new w _
  case round =>
    obtain ⟨m, i, acc, rfl, rfl, hlen, hi8, hm, HA, HB, HE⟩ := hrel
    by_cases hpos : 0 < m
    · obtain ⟨i, rfl⟩ : ∃ i', i = i' + 1 := ⟨i - 1, by
        rcases Nat.eq_zero_or_pos i with h | h
        · subst h; simp at hm; omega
        · omega⟩
      have hm9 : m < 9223372036854775808 := Nat.lt_of_lt_of_le hm (Nat.le_trans (Nat.pow_le_pow_right (by omega) hi8) (by decide))
      have hc : wr.cell? ⟨w.heap.size, i, none⟩ = some (Value.int .u8 0) := by
        rw [cell_blk HB.out]; unfold grp; rw [List.getElem?_toArray, List.getElem?_append_left (by simp)]; simp
      have hf : wr.frozen? ⟨w.heap.size, i, none⟩ = false := frozen_blk HB.out i
      go_wp2
      rw [high_cell m hm9]
      go_roundw
      case rel =>
        refine ⟨m / 128, i, byt (128 + m % 128) :: acc, by go_num, rfl, by simp; omega, by omega, ?_, Lib.hid ?_, Lib.hid ?_, Lib.hid (HE.out.set (Nat.le_refl _) _)⟩
        · rw [Nat.pow_succ] at hm; exact Nat.div_lt_of_lt_mul (by omega)
        · rw [← HA.out, hi_pos m hpos]; simp
        · rw [heap_setCell_same wr _ _ _ _ _ HB.out, grp_set]
      case measure => simp [intOf]; omega
    · obtain rfl : m = 0 := by omega
      clear hpos hm
      have hs : ∀ W : World, (Instr.sliceAt 97 (.pointer (some ⟨w.heap.size, 0, none⟩)) (some (.int .i64 (i : Int))) none none).run Try.prog W = .ok (.slice (some ⟨w.heap.size, i, none⟩) (9 - i) (9 - i)) W := by
        obtain ⟨i0, hi0, _, h1, _⟩ := info_parts tBytes.info
        exact slice_arr _ _ _ 9 i0 arr9 hi0 h1 _ i (by omega)
      go_wp2_with fail
      refine (Join_calls _ (fun _ => True) _ [bs, acc] (Rs.two (heap_alloc_new _ _) trivial ((HR.out.ext (HE.out.alloc _)).mono fun _ _ => trivial) ?_) ?_).mono ?_
      · exact ⟨_, 9 - i, by rw [show 9 - i = acc.length by omega], by omega, by omega, by omega, Row.bytes_of ((Below.heap_alloc _ _ _ (blk_lt HB.out)).trans HB.out) trivial fun j x hj => grp_at i acc j x hj⟩
      · have hlen' : acc.length ≤ 9 := by omega
        simp [flen]; omega
      rintro e w' ⟨u, rfl, ho, he⟩
      have ho' := Lib.hid (Ow.lower (ho.mono (S' := (w.heap.size ≤ ·)) fun b hb => Nat.le_trans (HE.out.alloc _).le hb) (HE.out.alloc _).le)
      have he' := Lib.hid ((HE.out.alloc _).trans he)
      clear ho he
      go_wp2
      go_ret
      have hfl : [bs, acc].flatten = bs ++ digs n := by rw [← HA.out, hi_zero]; simp
      exact ⟨_, rfl, hfl ▸ ho'.out, he'.out⟩

theorem Number_calls (w : World) (S : Nat → Prop) (v : Value) (bs : List UInt8) (z : Int) (hr : Rs kByte w S v bs) (hn : I64 z) (hsz : bs.length + 9 ≤ 140737488355328) :
    Calls Try.prog 40 #[v, .int .i64 z] w fun e w' => ∃ u, e = .returned u ∧ Ow kByte 5 w' w.heap.size (w.heap.size ≤ ·) u (bs ++ digs z.toNat) ∧ Ext w w' := by
  obtain ⟨h0, h1⟩ := hn
  exact Number_nat w S v bs z.toNat hr (by omega) hsz z (by omega) (by omega)
end Go.Proofs.Ytkedmpppfejofaa
set_option linter.unusedVariables false
set_option linter.unusedSimpArgs false
namespace Go.Proofs.Ytkedmpppfejofaa
open Go.RowKit

theorem tString : Try.prog.underlying 9 = some .string := by kernel_rfl
theorem tByte : Try.prog.underlying 5 = some (.int .u8) := by kernel_rfl

end Go.Proofs.Ytkedmpppfejofaa
set_option linter.unusedVariables false
set_option linter.unusedSimpArgs false
namespace Go.Proofs.Ytkedmpppfejofaa
open Go.RowKit

set_option maxHeartbeats 400000 in
theorem Clone_calls (w : World) (S : Nat → Prop) (v : Value) (bs : List UInt8) (hr : Rs kByte w S v bs) (hsz : bs.length ≤ 140737488355328) :
    Calls Try.prog 31 #[v] w fun e w' => ∃ u, e = .returned u ∧ Ow kByte 5 w' w.heap.size (w.heap.size ≤ ·) u bs ∧ Ext w w' := by
  have HR := Lib.hid hr
  obtain ⟨A, c, rfl, hl, hc, hzl, hrow⟩ := hr
  cases A with
  | none =>
    have : bs = [] := by
      rcases Nat.eq_zero_or_pos bs.length with h0 | h0
      · exact List.eq_nil_of_length_eq_zero h0
      · obtain ⟨ad, h, _⟩ := hrow h0; cases h
    subst this
    clear hrow
    have hq := @Lib.run_eql_slice_nil Try.prog
    go_enter Try.func31, Try.ntmps31
    go_wp2
    go_ret
    exact ⟨_, rfl, Ow.nil _ _ _ _ _, Ext.refl _⟩
  | some ad =>
    clear hrow
    have hq := @Lib.run_eql_slice_nil Try.prog
    go_enter Try.func31, Try.ntmps31
    go_wp2_with (at_builtin; refine wpList_append_Rs kByte rfl (.tmp 5) (.tmp 6) 56 5 rfl tBytes w.heap.size _ _ [] bs (w.heap.size ≤ ·) S rfl rfl ?co (HR.out.alloc _) (fun _ _ h => h) ?cn ?cb ?cz ?_)
    case co => exact Ow.slit (xs := []) (heap_alloc_new _ _) (Nat.le_refl _) (Nat.le_refl _) (by simp) (by simp)
    case cn => intro b hb; simp at hb; omega
    case cb => simpa using hsz
    case cz => simp
    intro v' w2 ho hg _
    have HO := Lib.hid ho
    have HE := Lib.hid (((Ext.refl w).alloc _).grown hg (fun k hk => by simp [Value.ownBlock] at hk; omega))
    clear ho hg
    go_wp2
    go_ret
    exact ⟨_, rfl, HO.out, HE.out⟩

set_option maxHeartbeats 400000 in
theorem Equal_calls (w : World) (S T : Nat → Prop) (v u : Value) (xs ys : List UInt8) (h1 : Rs kByte w S v xs) (h2 : Rs kByte w T u ys) :
    Calls Try.prog 30 #[v, u] w fun e w' => e = .returned (.bool (xs == ys)) ∧ w = w' := by
  have c1 := h1.to_string (P := Try.prog) Try.underlying56 tByte tString
  have c2 := h2.to_string (P := Try.prog) Try.underlying56 tByte tString
  clear h1 h2
  go_enter Try.func30, Try.ntmps30
  go_wp2
  go_ret
  exact ⟨rfl, rfl⟩

theorem Equal_same (w : World) (S T : Nat → Prop) (v u : Value) (xs : List UInt8) (h1 : Rs kByte w S v xs) (h2 : Rs kByte w T u xs) :
    Calls Try.prog 30 #[v, u] w fun e w' => e = .returned (.bool true) ∧ w = w' :=
  (Equal_calls w S T v u xs xs h1 h2).mono fun _ _ ⟨h, k⟩ => ⟨by rw [h]; simp, k⟩
end Go.Proofs.Ytkedmpppfejofaa
set_option linter.unusedVariables false
set_option linter.unusedSimpArgs false
namespace Go.Proofs.Ytkedmpppfejofaa
open Go.RowKit

theorem digs_small (n : Nat) (h : n < 128) : digs n = [byt n] := by
  unfold digs
  rw [show n / 128 = 0 by omega, hi_zero, Nat.mod_eq_of_lt h]; rfl
theorem digs_big (n : Nat) (h : 128 ≤ n) : digs n = hi (n / 128) ++ [byt (n % 128)] := rfl
theorem hi_digs (m : Nat) (h : 0 < m) : hi m = (digs m).set ((digs m).length - 1) (byt (128 + m % 128)) := by
  rw [hi_pos m h]
  unfold digs
  rw [List.length_append, List.length_singleton, List.set_append_right _ _ (by omega)]
  simp

theorem digs_last (m : Nat) : (digs m)[(digs m).length - 1]? = some (byt (m % 128)) := by
  unfold digs
  rw [List.length_append, List.length_singleton, List.getElem?_append_right (by omega)]
  simp
theorem digs_pos (m : Nat) : 0 < (digs m).length := by unfold digs; simp

set_option maxHeartbeats 400000 in
theorem Digits_small (n : Int) (w : World) (hlt : n < 128) (hn : I64 n) :
    Calls Try.prog 63 #[.int .i64 n] w fun e w' => ∃ u, e = .returned u ∧ Ow kByte 5 w' w.heap.size (w.heap.size ≤ ·) u (digs n.toNat) ∧ Ext w w' := by
  obtain ⟨h0, h1⟩ := hn
  obtain ⟨m, hm⟩ : ∃ m : Nat, m = n.toNat := ⟨_, rfl⟩
  rw [← hm]
  have hm1 : m < 128 := by omega
  have hmx : (if n < 0 then 0 else n) = (m : Int) := by split <;> omega
  clear hm
  go_enter Try.func63, Try.ntmps63
  go_wp2_with fail
  go_ret
  refine ⟨_, rfl, ?_, (Ext.refl w).alloc _⟩
  rw [digs_small m hm1]
  refine Ow.slit (xs := [byt m]) ?_ (Nat.le_refl _) (Nat.le_refl _) (by simp) (by simp)
  rw [heap_alloc_new]
  simp [byt_toNat]
  omega

set_option maxHeartbeats 400000 in
theorem Digits_calls (k : Nat) : ∀ (n : Int) (w : World), n.toNat < 128 ^ k → I64 n →
    Calls Try.prog 63 #[.int .i64 n] w fun e w' => ∃ u, e = .returned u ∧ Ow kByte 5 w' w.heap.size (w.heap.size ≤ ·) u (digs n.toNat) ∧ Ext w w' := by
  induction k with
  | zero => exact fun n w hk hn => Digits_small n w (by simp at hk; omega) hn
  | succ k ih =>
    intro n w hk hn
    by_cases hlt : n < 128
    · exact Digits_small n w hlt hn
    have IH := Lib.hid ih
    clear ih
    obtain ⟨h0, h1⟩ := hn
    have hq : (n / 128).toNat < 128 ^ k := by
      have : (n / 128).toNat = n.toNat / 128 := by omega
      rw [this]
      rw [Nat.pow_succ] at hk
      exact Nat.div_lt_of_lt_mul (by omega)
    have HQ := Lib.hid hq
    clear hq hk
    go_enter Try.func63, Try.ntmps63
    go_wp2_with fail
    refine (IH.out (n / 128) _ HQ.out ⟨by omega, by omega⟩).mono ?_
    rintro e w1 ⟨u, rfl, ho, he⟩
    have hD : (digs n.toNat) = hi (n / 128).toNat ++ [byt (n.toNat % 128)] := by
      rw [digs_big _ (by omega)]; congr 2; omega
    rw [hi_digs _ (by omega)] at hD
    have hl := digs_pos (n / 128).toNat
    have hla := digs_last (n / 128).toNat
    have hx : (n / 128).toNat % 128 < 128 := by omega
    have hlen := (digs_len (n / 128).toNat (by omega)).2
    obtain ⟨g, cap, rfl, hb, hg, hcap, _⟩ := ho.form hl
    generalize (n / 128).toNat % 128 = x at hD hla hx
    generalize hds : digs (n / 128).toNat = ds at ho hl hla hD hcap hlen
    have hc : w1.cell? ⟨g, ds.length - 1, none⟩ = some (.int .u8 (x : Int)) := by
      rw [(ho.scell (ds.length - 1) (by omega)).1]
      rw [List.getElem?_eq_getElem (by omega)] at hla
      injection hla with hla
      rw [hla, byt_toNat, Nat.mod_eq_of_lt (by omega)]
    have hf := (ho.scell (ds.length - 1) (by omega)).2
    have HO := Lib.hid ho
    have HE := Lib.hid he
    have HD := Lib.hid hD
    clear ho he hD hla hds HQ
    go_wp2_with (at_builtin; refine wpList_append_Rs kByte rfl (.tmp 21) (.tmp 25) 56 5 rfl tBytes w.heap.size _ _ (ds.set (ds.length - 1) (byt (128 + x))) [byt (n.toNat % 128)] (w.heap.size ≤ ·) (fun _ => True) rfl rfl ?co ?cr (fun _ _ h => h) ?cn ?cb ?cz ?_)
    case co =>
      have h2 := (HO.out.sset (ds.length - 1) (byt (128 + x)) trivial).1.alloc (.cells #[.int .u8 (n % 128)] 5)
      have h3 : Value.int .u8 ((x : Int) + 128) = encB (byt (128 + x)) := by rw [← byteval _ (by omega)]; congr 1; omega
      rw [h3]
      exact h2
    case cr =>
      have h3 : Value.int .u8 (n % 128) = encB (byt (n.toNat % 128)) := by rw [← byteval _ (by omega)]; congr 1; omega
      rw [h3]
      exact Rs.one_byte _ _ _ (by simp) _
    case cn => intro b hb; simp at hb; have := HE.out.le; omega
    case cb => simp; omega
    case cz => have := HE.out.le; simp; omega
    intro v' w2 ho hgr _
    rw [← HD.out] at ho
    have HO' := Lib.hid ho
    have HE' := Lib.hid (((HE.out.set (p := ⟨g, ds.length - 1, none⟩) hb (.int .u8 ((x : Int) + 128))).alloc _).grown hgr (fun k hk => by simp [Value.ownBlock] at hk; omega))
    clear ho hgr
    go_wp2
    go_ret
    exact ⟨_, rfl, HO'.out, HE'.out⟩

theorem Digits_any (n : Int) (w : World) (hn : I64 n) :
    Calls Try.prog 63 #[.int .i64 n] w fun e w' => ∃ u, e = .returned u ∧ Ow kByte 5 w' w.heap.size (w.heap.size ≤ ·) u (digs n.toNat) ∧ Ext w w' :=
  Digits_calls 9 n w (by have := hn.2; omega) hn

set_option maxHeartbeats 400000 in
theorem RefNumber_calls (w : World) (S : Nat → Prop) (v : Value) (bs : List UInt8) (n : Int) (hr : Rs kByte w S v bs) (hn : I64 n) (hsz : bs.length + 9 ≤ 140737488355328) :
    Calls Try.prog 54 #[v, .int .i64 n] w fun e w' => ∃ u, e = .returned u ∧ Ow kByte 5 w' w.heap.size (w.heap.size ≤ ·) u (bs ++ digs n.toNat) ∧ Ext w w' := by
  have HR := Lib.hid hr
  obtain ⟨A, c, rfl, hl, hc, hzl, hrow⟩ := hr
  clear hrow
  have HN := Lib.hid hn
  have hd := digs_len n.toNat (by have := hn.2; omega)
  have HD := Lib.hid hd
  clear hn hd
  go_enter Try.func54, Try.ntmps54
  go_wp2_with (first | fail | (at_builtin; refine wpList_append_Rs kByte rfl (.tmp 5) (.tmp 6) 56 5 rfl tBytes w.heap.size _ _ [] bs (w.heap.size ≤ ·) S rfl rfl ?co (HR.out.alloc _) (fun _ _ h => h) ?cn ?cb ?cz ?_))
  case co => exact Ow.slit (xs := []) (heap_alloc_new _ _) (Nat.le_refl _) (Nat.le_refl _) (by simp) (by simp)
  case cn => intro b hb; simp at hb; omega
  case cb => simp; omega
  case cz => simp
  intro v' w2 ho hg _
  have HO := Lib.hid ho
  have HE := Lib.hid (((Ext.refl w).alloc _).grown hg (fun k hk => by simp [Value.ownBlock] at hk; omega))
  clear ho hg
  go_wp2_with fail
  refine (Digits_any n _ HN.out).mono ?_
  rintro e w3 ⟨u, rfl, ho, he⟩
  have HO2 := Lib.hid (HO.out.ext he)
  have HU := Lib.hid ho
  have HE2 := Lib.hid (HE.out.trans he)
  clear ho he HO HE
  go_wp2_with (at_builtin; refine wpList_append_Rs kByte rfl (.tmp 7) (.tmp 9) 56 5 rfl tBytes w.heap.size _ _ _ _ (w.heap.size ≤ ·) _ rfl rfl HO2.out HU.out.rs (fun _ _ h => h) ?cn ?cb HE2.out.le ?_)
  case cn => intro b hb; have := HE2.out.le; omega
  case cb => have := HD.out; simp; omega
  intro v3 w4 ho hg _
  have HO := Lib.hid ho
  have HE := Lib.hid (HE2.out.grown hg HO2.out.from_)
  clear ho hg
  go_wp2
  go_ret
  refine ⟨_, rfl, ?_, HE.out⟩
  have := HO.out
  simpa using this

end Go.Proofs.Ytkedmpppfejofaa
