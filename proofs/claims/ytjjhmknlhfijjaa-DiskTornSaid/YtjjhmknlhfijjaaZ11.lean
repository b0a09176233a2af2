/-
  Texts of this claim, put together: SumSpec, Sum, RefSum, Concat, DiskTorn.
-/
import Derived.Test.YtjjhmknlhfijjaaZ1
import Derived.Test.YtjjhmknlhfijjaaZ2
import Derived.Test.YtjjhmknlhfijjaaZ10
set_option linter.unusedVariables false
set_option linter.unusedSimpArgs false
namespace Go.Proofs.Ytjjhmknlhfijjaa

/-- One bit of a sum goes on. -/
def crcBit (c : Nat) : Nat := if 4294967296 ≤ 2 * c then (2 * c - 4294967296) ^^^ 79764919 else 2 * c
def crcBits : Nat → Nat → Nat
  | 0, c => c
  | i + 1, c => crcBit (crcBits i c)
def crcByte (c : Nat) (x : UInt8) : Nat := crcBits 8 (c ^^^ (x.toNat * 16777216))
def crcFrom (c : Nat) (l : List UInt8) : Nat := l.foldl crcByte c
def crc (l : List UInt8) : Nat := crcFrom 4294967295 l

theorem xor_lt {a b : Nat} (ha : a < 4294967296) (hb : b < 4294967296) : a ^^^ b < 4294967296 := by
  have := Nat.xor_lt_two_pow (n := 32) (x := a) (y := b) (by omega) (by omega)
  omega
theorem crcBit_lt {c : Nat} (h : c < 4294967296) : crcBit c < 4294967296 := by
  unfold crcBit
  split
  · exact xor_lt (by omega) (by omega)
  · omega
theorem crcBits_lt {c : Nat} (h : c < 4294967296) : ∀ i, crcBits i c < 4294967296
  | 0 => h
  | i + 1 => crcBit_lt (crcBits_lt h i)
theorem crc_in {c : Nat} (x : UInt8) (h : c < 4294967296) : c ^^^ (x.toNat * 16777216) < 4294967296 := xor_lt h (by have := x.toNat_lt; omega)
theorem crcByte_lt {c : Nat} (x : UInt8) (h : c < 4294967296) : crcByte c x < 4294967296 := crcBits_lt (crc_in x h) 8
theorem crcFrom_cons (x : UInt8) (l : List UInt8) (c : Nat) : crcFrom c (x :: l) = crcFrom (crcByte c x) l := by unfold crcFrom; rw [List.foldl_cons]
theorem crcFrom_lt (l : List UInt8) : ∀ {c : Nat}, c < 4294967296 → crcFrom c l < 4294967296 := by
  induction l with
  | nil => intro c h; exact h
  | cons x l ih =>
    intro c h
    rw [crcFrom_cons]
    exact ih (crcByte_lt x h)
theorem crc_lt (l : List UInt8) : crc l < 4294967296 := by unfold crc; exact crcFrom_lt l (by omega)
theorem crcFrom_append (l m : List UInt8) (c : Nat) : crcFrom c (l ++ m) = crcFrom (crcFrom c l) m := by simp [crcFrom]
theorem crcFrom_snoc (l : List UInt8) (x : UInt8) (c : Nat) : crcFrom c (l ++ [x]) = crcByte (crcFrom c l) x := by simp [crcFrom]
theorem crcBits_succ (i c : Nat) : crcBits (i + 1) c = crcBit (crcBits i c) := rfl
end Go.Proofs.Ytjjhmknlhfijjaa
set_option linter.unusedVariables false
set_option linter.unusedSimpArgs false
namespace Go.Proofs.Ytjjhmknlhfijjaa
open Go.RowKit

theorem bv_u32 (a : Nat) (ha : a < 4294967296) : (BitVec.ofInt 32 (a : Int)).toNat = a := by
  rw [BitVec.ofInt_natCast, BitVec.toNat_ofNat]; exact Nat.mod_eq_of_lt (by omega)
theorem xor_u32 (a b : Nat) (ha : a < 4294967296) (hb : b < 4294967296) : bits .xor .u32 (a : Int) (b : Int) = ((a ^^^ b : Nat) : Int) := by
  have hx := xor_lt ha hb
  show IntKind.u32.wrap ((BitVec.ofInt 32 (a : Int) ^^^ BitVec.ofInt 32 (b : Int)).toNat : Int) = _
  rw [BitVec.toNat_xor, bv_u32 a ha, bv_u32 b hb, IntKind.wrap_u32]
  omega

theorem bit_step (q : Nat) (h : q < 4294967296) : bits .xor .u32 ((q : Int) * 2 % 4294967296) (79764919 * ((q : Int) / 2147483648)) = ((crcBit q : Nat) : Int) := by
  unfold crcBit
  split
  · rename_i h1
    have h2 := xor_u32 (2 * q - 4294967296) 79764919 (by omega) (by omega)
    have e1 : (q : Int) * 2 % 4294967296 = ((2 * q - 4294967296 : Nat) : Int) := by omega
    have e2 : 79764919 * ((q : Int) / 2147483648) = ((79764919 : Nat) : Int) := by omega
    rw [e1, e2]
    exact h2
  · rename_i h1
    have h2 := xor_u32 (2 * q) 0 (by omega) (by omega)
    rw [Nat.xor_zero] at h2
    have e1 : (q : Int) * 2 % 4294967296 = ((2 * q : Nat) : Int) := by omega
    have e2 : 79764919 * ((q : Int) / 2147483648) = ((0 : Nat) : Int) := by omega
    rw [e1, e2]
    exact h2

end Go.Proofs.Ytjjhmknlhfijjaa
set_option linter.unusedVariables false
set_option linter.unusedSimpArgs false
namespace Go.Proofs.Ytjjhmknlhfijjaa
open Go.RowKit

theorem xor_i64 (a b : Nat) (ha : a < 4294967296) (hb : b < 4294967296) : bits .xor .i64 (a : Int) (b : Int) = ((a ^^^ b : Nat) : Int) := by
  have hx := xor_lt ha hb
  show IntKind.i64.wrap ((BitVec.ofInt 64 (a : Int) ^^^ BitVec.ofInt 64 (b : Int)).toNat : Int) = _
  rw [BitVec.toNat_xor, bv_i64 a (by omega), bv_i64 b (by omega), IntKind.wrap_i64]
  omega

end Go.Proofs.Ytjjhmknlhfijjaa
set_option linter.unusedVariables false
set_option linter.unusedSimpArgs false
namespace Go.Proofs.Ytjjhmknlhfijjaa
open Go.RowKit

theorem run_append_zeros_nil {P : Program} (w : World) (t ti ty e : TypeId) (i : TypeInfo) (z : Value) (ht : P.underlying t = some (.slice e)) (hti : P.underlying ti = some (.int .i64)) (hi : P.info? e = some i) (hz : i.zero = some z)
    (hs : i.size = 1) (hb : i.bytes = 1) (n : Nat) (h0 : 0 < n) (h48 : n ≤ 140737488355328) :
    (Builtin.append_ #[t, ti] ty #[.slice none 0 0, .int .i64 (n : Int)]).run P w =
      .ok (.slice (some ⟨w.heap.size, 0, none⟩) n (grownCap w n 0 e)) (w.drew.alloc (.cells (Builtin.zeroCells z.cells n ++ Builtin.zeroCells z.cells (grownCap w n 0 e - n)) e)) := by
  have hn : n ≠ 0 := by omega
  have hw : IntKind.i64.wrap (n : Int) = n := by rw [IntKind.wrap_i64]; omega
  have h1 : ¬ ((n : Int) < 0) := by omega
  have h2 : ¬ (281474976710656 < (n : Int)) := by omega
  have h63' : ¬ (9223372036854775807 < (n : Int)) := by omega
  have h48' : ¬ (281474976710656 < Builtin.nextslicecap n 0) := by rw [nextslicecap_zero h0]; omega
  simp [Builtin.append_, run_underlying ht, run_underlying hti, sizeOf, typeInfo, zeroValue, hi, hz, hs, hb, asInt, asIntOf, hw, h1, h2, hn, h63', h48', Question.forced, run_firstCells_none, newRow, grownCap]

set_option maxRecDepth 100000 in
set_option maxHeartbeats 400000 in
theorem Grow_nil (w : World) (n : Nat) (hn : n ≤ 140737488355328) :
    Calls Try.prog 52 #[.slice none 0 0, .int .i64 (n : Int)] w fun e w' => ∃ u, e = .returned u ∧ Ow kByte 5 w' w.heap.size (w.heap.size ≤ ·) u [] ∧ Ext w w' := by
  rcases Nat.eq_zero_or_pos n with h0 | h0
  · subst h0
    go_enter Try.func52, Try.ntmps52
    go_wp2
    go_ret
    exact ⟨_, rfl, Ow.nil _ _ _ _ _, Ext.refl _⟩
  · obtain ⟨i, hi, hz0, hz1, hz2⟩ := info_parts tBytes.info
    have HZ := Lib.hid (run_append_zeros_nil (P := Try.prog) w 23 3 23 5 i _ tBytes.under Try.underlying3 hi hz0 hz1 hz2 n h0 hn)
    clear hi hz0 hz1 hz2
    go_enter Try.func52, Try.ntmps52
    go_wp2_with (at_builtin; refine wpList_append_run rfl (.tmp 20) (.tmp 21) 23 3 rfl _ _ rfl rfl _ _ HZ.out ?_)
    go_wp2
    go_ret
    refine ⟨_, rfl, ⟨fun k hk => by simp [Value.ownBlock] at hk; omega, by simp, [], World.ownsRow_made w.drew _ (grownCap w n 0 5) (Nat.le_refl _) (grownCap_le_maxLen w n 0 _ (by simp only [maxLen]; omega)) ?_, fun j x hj => by simp at hj⟩, (Ext.refl w).drew.alloc _⟩
    have := grownCap_ge w n 0 5
    simp only [Array.size_append, size_zeroCells, kByte, Kd.scalar]
    show n * 1 + (grownCap w n 0 5 - n) * 1 = grownCap w n 0 5 * 1
    omega

set_option maxRecDepth 100000 in
set_option maxHeartbeats 400000 in
theorem Concat_calls (w : World) (S : Nat → Prop) (v : Value) (ls : List (List UInt8)) (hr : Rs (kSlice kByte) w S v ls) (hsz : flen ls ≤ 140737488355328) :
    Calls Try.prog 21 #[v] w fun e w' => ∃ u, e = .returned u ∧ Ow kByte 5 w' w.heap.size (w.heap.size ≤ ·) u ls.flatten ∧ Ext w w' := by
  obtain ⟨A, c, rfl, hl, hc, hzl, hrow⟩ := hr.under
  have HR := Lib.hid hrow
  clear hrow hr
  go_enter Try.func21, Try.ntmps21
  go_wp2
  go_loop [3, 11] (fun n i => ∃ k : Nat, k ≤ ls.length ∧ i = .int .i64 k ∧ n = .int .i64 (flen (ls.take k) : Int)) (fun _ i => ls.length - (intOf i).toNat)
  case atStart => exact ⟨0, Nat.zero_le _, rfl, rfl⟩
  case round =>
    obtain ⟨k, hk, rfl, rfl⟩ := hrel
    by_cases hlt : k < ls.length
    · obtain ⟨ad, u, rfl, hcell, hu⟩ := HR.out.slice hlt
      obtain ⟨A1, c1, rfl, hl1, hc1, hz1, hrow1⟩ := hu
      have h1 : flen (ls.take (k + 1)) ≤ flen ls := flat_take_le ls (k + 1)
      have h2 := flen_succ ls k hlt
      have H2 := Lib.hid h2
      have h3 : flen (ls.take k) + ls[k].length ≤ 140737488355328 := by omega
      clear hrow1 h1 h2
      go_wp2
      go_round
      case rel => exact ⟨k + 1, by omega, by go_num, by rw [H2.out]; go_num⟩
      case measure => simp [intOf]; omega
    · obtain rfl : k = ls.length := by omega
      rw [List.take_length]
      clear hlt
      go_wp2_with fail
      refine (Grow_nil _ (flen ls) hsz).mono ?_
      rintro e w1 ⟨u, rfl, ho, he⟩
      have HO1 := Lib.hid ho
      have HE1 := Lib.hid he
      clear ho he
      go_wp2
      go_loopw [6, 27] (fun u i wr => ∃ k : Nat, k ≤ ls.length ∧ i = .int .i64 k ∧ Hid (Ow kByte 5 wr w.heap.size (w.heap.size ≤ ·) u (ls.take k).flatten) ∧ Hid (Ext w wr)) (fun _ i _ => ls.length - (intOf i).toNat)
      case atStart => exact ⟨0, Nat.zero_le _, rfl, HO1, HE1⟩
      case round =>
        obtain ⟨k, hk, rfl, HO, HE⟩ := hrel
        by_cases hlt : k < ls.length
        · have hrow2 := HR.out.keep (w' := wr) fun b hb _ => HE.out.block b hb
          obtain ⟨ad, u, rfl, hcell, hu⟩ := hrow2.slice hlt
          have HU := Lib.hid hu
          have h1 : flen (ls.take (k + 1)) ≤ flen ls := flat_take_le ls (k + 1)
          have h2 := flen_succ ls k hlt
          have h3 : flen (ls.take k) + ls[k].length ≤ 140737488355328 := by omega
          have H3 := Lib.hid h3
          clear h1 h2 h3 hrow2 hu
          have HS := Lib.hid (flat_take_succ ls k hlt)
          go_wp2_with (at_builtin; refine wpList_append_Rs kByte rfl (.tmp 31) (.tmp 32) 23 5 rfl tBytes w.heap.size _ _ _ _ _ _ rfl rfl HO.out HU.out ?c1 ?c2 ?c3 HE.out.le ?_)
          case c1 => exact fun _ _ h => h
          case c2 => intro b hb; have := HE.out.le; omega
          case c3 => have := H3.out; unfold flen at this; omega
          intro v' w' ho hg hat
          have HO' := Lib.hid ho
          have HE' := Lib.hid (HE.out.grown hg HO.out.from_)
          rw [← HS.out] at HO'
          clear ho hg hat HO HE
          go_wp2
          go_roundw
          case rel => exact ⟨k + 1, by omega, by go_num, HO', HE'⟩
          case measure => simp [intOf]; omega
        · obtain rfl : k = ls.length := by omega
          rw [List.take_length] at HO
          clear hlt
          go_wp2
          go_ret
          exact ⟨_, rfl, HO.out, HE.out⟩
end Go.Proofs.Ytjjhmknlhfijjaa
set_option linter.unusedVariables false
set_option linter.unusedSimpArgs false
namespace Go.Proofs.Ytjjhmknlhfijjaa
open Go.RowKit

theorem torn_last {s : DkS} (a : ActS) (tear : Int) (h : s.acts = []) : fallS (putA s a) 1 tear = ⟨true, 0, 0, 0, s.room, doA s.last a.k (tornB tear a.data), []⟩ := by
  unfold fallS
  have e : (putA s a).acts = [a] := by unfold putA; rw [h]; rfl
  rw [e, show clampN 1 [a].length = 0 + 1 from rfl, keptA_succ [a] 0 tear (by simp)]
  rfl
theorem ins_end (old b : Nam) : ins old old.length b = old ++ b := by
  unfold ins
  rw [List.take_length, List.drop_of_length_le (by omega), List.append_nil]
def tornS (s : DkS) (n b : Nam) : DkS := ⟨false, 0, 0, 0, s.room, putK s.seen n (bytesK s.seen n ++ b), []⟩
set_option maxRecDepth 100000 in
set_option maxHeartbeats 1600000 in
theorem DiskTorn_walk (w : World) (room : Int) (hroom : -9223372036854775808 ≤ room ∧ room ≤ 9223372036854775807) (S1 : Nat → Prop) (v1 : Value) (l : List DoS) (h1 : Rs kDDo w S1 v1 l) (x2 : ByteArray) (y2 : x2.size ≤ maxLen) (S3 : Nat → Prop) (v3 : Value) (b : List UInt8) (h3 : Rs kByte w S3 v3 b) (tear : Int) (htear : -9223372036854775808 ≤ tear ∧ tear ≤ 9223372036854775807) :
    Calls Try.prog 3 #[.int .i64 room, v1, .string x2, v3, .int .i64 tear] w fun e w' => e = .returned (.bool true) ∧ Ext w w' := by
  have HTE := Lib.hid (show I64 tear from htear)
  obtain ⟨n, rfl⟩ := str_of x2
  have HNN := Lib.hid (name_bnd y2)
  obtain ⟨Ab, cb, e, hb1, hb2, hb3, -⟩ := id h3
  subst e
  have HB := Lib.hid h3.under
  clear h3
  clear hroom htear y2
  obtain ⟨A1, c1, e, -⟩ := id h1
  subst e
  have HL1 := Lib.hid h1
  clear h1
  have HMD := Lib.hid (made_calls w w [] room S1 _ l (DkS_.nil w) HL1.out)
  go_enter Try.func3, Try.ntmps3
  go_wp2_with fail
  refine HMD.out.mono ?_
  rintro e w1 ⟨p, s, rfl, HD1, HS1⟩
  unfold ptr
  simp only [List.nil_append] at HD1
  by_cases hs : shortF l = true
  case neg =>
    have hs' : shortF l = false := by simpa using hs
    rw [hs']
    clear hs hs'
    go_wp2_with fail
    refine (awake_calls w1).mono ?_
    rintro e w2 ⟨rfl, hx⟩
    have HX := Lib.hid (HD1.out.ext.trans hx)
    clear hx
    go_wp2_with fail
    go_ret
    exact ⟨rfl, HX.out⟩
  have hs0 := HS1.out hs
  have HLN := Lib.hid (show s.acts.length ≤ 120 by
    rw [hs0]
    have h1 := foldD_len l (newS (room20 room))
    have h2 := short_len hs
    have h3 : (newS (room20 room)).acts.length = 0 := rfl
    unfold madeS
    omega)
  have HRM := Lib.hid (show s.room < 1048576 by rw [hs0]; exact madeS_room room l)
  have HS := Lib.hid hs
  rw [hs]
  clear hs hs0 HMD
  by_cases hbl : 32768 < b.length
  case pos =>
    go_wp2_with fail
    refine (awake_calls w1).mono ?_
    rintro e wz ⟨rfl, hx⟩
    have HXZ := Lib.hid (HD1.out.ext.trans hx)
    clear hx
    go_wp2_with fail
    go_ret
    exact ⟨rfl, HXZ.out⟩

  go_wp2_with fail
  refine (HD1.out.op (i := 0) rfl (fun M D hX => Start_calls w1 p M D s hX)).mono ?_
  rintro e wa ⟨rfl, HDa⟩
  change Hid (DkS_ w wa [(p, startS s)]) at HDa
  go_wp2_with fail
  refine (HDa.out.op (i := 0) rfl (fun M D hX => Arm_calls wa p M D (startS s) 0 0 0 hX i0 i0 i0)).mono ?_
  rw [calm_code]
  rintro e w3 ⟨rfl, HD3⟩
  change Hid (DkS_ w w3 [(p, calmS s)]) at HD3
  go_wp2_with fail
  refine (HD3.out.op (i := 0) rfl (fun M D hX => Sync_calls w3 p M D (calmS s) hX)).mono ?_
  rw [synced_code]
  rintro e w4 ⟨rfl, HD4⟩
  change Hid (DkS_ w w4 [(p, syncedS s)]) at HD4
  go_wp2_with fail
  have HK4 := Lib.hid HD4.out.k0
  refine (HK4.out.read (i := 0) (s := syncedS s) (n := n) rfl HNN.out).mono ?_
  rintro e w5 ⟨A5, m5, c5, K5, rfl, HX5, HK5, HR5, HKK5, HM5⟩
  obtain ⟨q, hq⟩ : ∃ q, q = syncedS s := ⟨_, rfl⟩
  have HQ := Lib.hid hq
  have HQA := Lib.hid (show q.acts = [] by rw [hq]; rfl)
  have HQC := Lib.hid (show Calm q by rw [hq]; exact ⟨rfl, rfl⟩)
  have HQS := Lib.hid (show q.seen = s.seen by rw [hq]; rfl)
  have HQR := Lib.hid (show q.room = s.room ∧ q.last = s.seen by rw [hq]; exact ⟨rfl, rfl⟩)
  rw [← hq] at HK5 HR5 HM5
  clear hq HD1 HDa HD3 HD4 HK4 HS1
  have hm5 : m5 ≤ 140737488355328 := by obtain ⟨_, _, e, _, _, h, _⟩ := HR5.out; rw [HM5.out]; exact h
  have HI5 := Lib.hid (show I64 (m5 : Int) from ⟨by omega, by omega⟩)
  have HB5 := Lib.hid (HB.out.ext HK5.out.ext)
  by_cases hw : writeF q n (m5 : Int) b = 0
  case neg =>
    have HWE := Lib.hid (show writeS q n (m5 : Int) b = (writeF q n (m5 : Int) b, q) by unfold writeS; rw [if_neg hw])
    obtain ⟨r, hr⟩ : ∃ r, r = writeF q n (m5 : Int) b := ⟨_, rfl⟩
    rw [← hr] at hw HWE
    have hne : (r != 0) = true := bne_iff_ne.2 hw
    clear hr hw
    go_wp2_with fail
    refine (HK5.out.op (i := 0) rfl (fun M D hX => Write_calls w5 p M D q n (m5 : Int) _ _ b hX HNN.out HI5.out HB5.out (by rw [HQA.out]; exact Nat.zero_le _))).mono ?_
    rw [HWE.out]
    rintro e w6 ⟨rfl, HK6, HKR6⟩
    change Hid (DkK w w6 [(p, q)] K5) at HK6
    go_wp2_with fail
    refine (awake_calls w6).mono ?_
    rintro e wz ⟨rfl, hx⟩
    have HXZ := Lib.hid (HK6.out.ext.trans hx)
    clear hx
    go_wp2_with fail
    go_ret
    exact ⟨rfl, HXZ.out⟩

  obtain ⟨a, ha⟩ : ∃ a : ActS, a = ⟨.wr n m5, b⟩ := ⟨_, rfl⟩
  have HWE := Lib.hid (show writeS q n (m5 : Int) b = (0, putA q a) by unfold writeS; rw [if_pos hw, calm_push HQC.out, ha]; rfl)
  -- what was read is what the file has
  have hbk : readF q n = bytesK q.seen n := by
    unfold readF
    split
    · rfl
    · rename_i hf
      unfold writeF at hw
      by_cases h21 : findF q n = 21
      · rw [bytesK, (find_file.1 h21).2.2]; rfl
      · rw [if_neg (fun h => h21 h.1), if_neg hf] at hw
        exact absurd hw hf
  have hmay : mayF n = true := by
    have h1 := (write_fits (HK5.out.ok (i := 0) rfl) hw).1.2.1 n (by simp [namesA])
    exact h1
  have hlen : m5 = (bytesK q.seen n).length := by rw [HM5.out, hbk]
  rw [hbk] at HR5
  have HFALL := Lib.hid (show fallS (putA q a) 1 tear = { tornS s n (tornB tear b) with off := true } by
    rw [torn_last a tear HQA.out, ha]
    show (⟨true, 0, 0, 0, q.room, putK q.last n (ins (bytesK q.last n) m5 (tornB tear b)), []⟩ : DkS) = _
    rw [HQR.out.1, HQR.out.2, hlen, HQS.out, ins_end]
    rfl)
  have hrise : riseK s.seen := by have := (HK5.out.ok (i := 0) rfl).seen_rise; rw [HQS.out] at this; exact this
  have HGT : getK (tornS s n (tornB tear b)).seen n = some (bytesK s.seen n ++ tornB tear b) := by
    show getK (putK s.seen n _) n = _
    rw [getK_putK hrise, if_pos rfl]
  have HFF := Lib.hid (show findF (tornS s n (tornB tear b)) n = 0 by rw [calm_find ⟨rfl, rfl⟩, if_pos hmay, HGT]; rfl)
  have HRF := Lib.hid (show readF (tornS s n (tornB tear b)) n = bytesK s.seen n ++ tornB tear b by unfold readF; rw [if_pos HFF.out, bytes_some HGT])
  rw [HQS.out] at HR5
  clear hw ha hbk hmay hlen HGT hrise HM5
  go_wp2_with fail
  refine (HK5.out.op (i := 0) rfl (fun M D hX => Write_calls w5 p M D q n (m5 : Int) _ _ b hX HNN.out HI5.out HB5.out (by rw [HQA.out]; exact Nat.zero_le _))).mono ?_
  rw [HWE.out]
  rintro e w6 ⟨rfl, HK6, HKR6⟩
  change Hid (DkK w w6 [(p, putA q a)] K5) at HK6
  have HR6 := Lib.hid (HKR6.out _ _ _ _ HR5.out)
  go_wp2_with fail
  refine (HK6.out.op (i := 0) rfl (fun M D hX => Crash_calls w6 p M D (putA q a) 1 tear hX (by constructor <;> omega) HTE.out)).mono ?_
  rw [show (crashS (putA q a) 1 tear).1 = 0 by unfold crashS; rw [show (putA q a).off = false from HQC.out.off]; rfl]
  rintro e w7 ⟨rfl, HK7, HKR7⟩
  rw [show (crashS (putA q a) 1 tear).2 = fallS (putA q a) 1 tear by unfold crashS; rw [show (putA q a).off = false from HQC.out.off]; rfl] at HK7
  change Hid (DkK w w7 [(p, fallS (putA q a) 1 tear)] K5) at HK7
  rw [HFALL.out] at HK7
  have HR7 := Lib.hid (HKR7.out _ _ _ _ HR6.out)
  go_wp2_with fail
  refine (HK7.out.op (i := 0) rfl (fun M D hX => Start_calls w7 p M D _ hX)).mono ?_
  rintro e w8 ⟨rfl, HK8, HKR8⟩
  change Hid (DkK w w8 [(p, tornS s n (tornB tear b))] K5) at HK8
  have HR8 := Lib.hid (HKR8.out _ _ _ _ HR7.out)
  go_wp2_with fail
  refine (HK8.out.read (i := 0) (s := tornS s n (tornB tear b)) (n := n) rfl HNN.out).mono ?_
  rintro e w9 ⟨A9, m9, c9, K9, rfl, HX9, HK9, HR9, HKK9, HM9⟩
  rw [HFF.out]
  rw [HRF.out] at HR9
  have HR10 := Lib.hid (HR8.out.ext HX9.out)
  have HBW := Lib.hid (HB.out.ext HK9.out.ext)
  obtain ⟨k, hk⟩ : ∃ k, k = clampN tear b.length := ⟨_, rfl⟩
  have hk1 : max 0 (min tear (b.length : Int)) = (k : Int) := by rw [hk, clamp_int]
  have hk2 : k ≤ b.length := by rw [hk]; exact clamp_le _ _
  have hsl := slice_to tBytes Ab b.length cb .i64 ((b.length : Int) - (k : Int)) (b.length - k) (by omega) (by omega)
  have hto := HBW.out.to_ (h := b.length - k) rfl (by omega)
  simp only [partV_eq, Nat.sub_zero] at hsl hto
  rw [show b.take (b.length - k) = tornB tear b by unfold tornB; rw [hk]] at hto
  have HTO := Lib.hid hto
  have htl : (tornB tear b).length = b.length - k := by unfold tornB; rw [List.length_take, hk]; omega
  have HTL := Lib.hid htl
  have HL5 := Lib.hid (show (bytesK s.seen n).length ≤ 140737488355328 ∧ (tornB tear b).length ≤ 32768 by
    constructor
    · obtain ⟨_, _, _, _, _, h, _⟩ := HR10.out; exact h
    · rw [htl]; omega)
  have HSM := Lib.hid (show (bytesK s.seen n).length ≤ 1073741824 by
    have h1 := bytesK_le (L := s.seen) n
    have h2 := HK5.out.ok (i := 0) rfl
    have h3 := h2.seen_sum
    have h4 := h2.room
    have h5 := h2.most
    rw [HQS.out] at h3
    omega)
  clear hk hto HR5 HR6 HR7 HR8 HM9 htl
  go_wp2_with fail
  refine (Concat_calls _ (fun _ => True) _ [bytesK s.seen n, tornB tear b] (Rs.two (heap_alloc_new _ _) trivial ((HR10.out.alloc _).mono fun _ _ => trivial) ((HTO.out.alloc _).mono fun _ _ => trivial)) (by have h1 := HSM.out; have h2 := HL5.out.2; simp [flen]; omega)).mono ?_
  rw [show [bytesK s.seen n, tornB tear b].flatten = bytesK s.seen n ++ tornB tear b by simp]
  rintro e w10 ⟨u, rfl, ho, hx10⟩
  have HO := Lib.hid ho.rs
  have hx9 : Ext w9 w10 := ((Ext.refl w9).alloc _).trans hx10
  have HR11 := Lib.hid (HR9.out.ext hx9)
  have HX10 := Lib.hid (HK9.out.ext.trans hx9)
  obtain ⟨Au, cu, e, -⟩ := ho.rs
  obtain ⟨lu, hlu⟩ : ∃ lu, lu = (bytesK s.seen n ++ tornB tear b).length := ⟨_, rfl⟩
  rw [← hlu] at e
  clear hlu
  subst e
  clear ho hx10 hx9
  go_wp2_with fail
  refine (Equal_same w10 _ _ _ _ _ HR11.out HO.out).mono ?_
  rintro e w' ⟨rfl, rfl⟩
  go_wp2_with fail
  refine (awake_calls w10).mono ?_
  rintro e wz ⟨rfl, hx⟩
  have HXZ := Lib.hid (HX10.out.trans hx)
  clear hx
  go_wp2_with fail
  go_ret
  exact ⟨rfl, HXZ.out⟩

end Go.Proofs.Ytjjhmknlhfijjaa
