/-
  spandrelref01: Digits, Number, Text, Flag.
-/
import Derived.Test.YtikbpgcalmndoaaBytes
set_option linter.unusedVariables false
set_option linter.unusedSimpArgs false
namespace Go.Proofs.Ytikbpgcalmndoaa
open Go.RowKit

theorem digs_small (n : Nat) (h : n < 128) : digs n = [byt n] := by
  unfold digs
  rw [show n / 128 = 0 by omega, hi_zero, Nat.mod_eq_of_lt h]; rfl
theorem digs_big (n : Nat) (h : 128 ≤ n) : digs n = hi (n / 128) ++ [byt (n % 128)] := rfl
theorem hi_digs (m : Nat) (h : 0 < m) : hi m = (digs m).set ((digs m).length - 1) (byt (128 + m % 128)) := by
  rw [hi_pos m h]
  unfold digs
  rw [List.length_append, List.length_singleton, List.set_append_right _ _ (by omega)]
  simp

theorem digs_last (m : Nat) : (digs m)[(digs m).length - 1]? = some (byt (m % 128)) := by
  unfold digs
  rw [List.length_append, List.length_singleton, List.getElem?_append_right (by omega)]
  simp
theorem digs_pos (m : Nat) : 0 < (digs m).length := by unfold digs; simp

set_option maxHeartbeats 400000 in
theorem Digits_small (n : Int) (w : World) (hlt : n < 128) (hn : I64 n) :
    Calls Try.prog 44 #[.int .i64 n] w fun e w' => ∃ u, e = .returned u ∧ Ow kByte 5 w' w.heap.size (w.heap.size ≤ ·) u (digs n.toNat) ∧ Ext w w' := by
  obtain ⟨h0, h1⟩ := hn
  obtain ⟨m, hm⟩ : ∃ m : Nat, m = n.toNat := ⟨_, rfl⟩
  rw [← hm]
  have hm1 : m < 128 := by omega
  have hmx : (if n < 0 then 0 else n) = (m : Int) := by split <;> omega
  clear hm
  go_enter Try.func44, Try.ntmps44
  go_wp2_with fail
  go_ret
  refine ⟨_, rfl, ?_, (Ext.refl w).alloc _⟩
  rw [digs_small m hm1]
  refine Ow.slit (xs := [byt m]) ?_ (Nat.le_refl _) (Nat.le_refl _) (by simp) (by simp)
  rw [heap_alloc_new]
  simp [byt_toNat]
  omega

set_option maxHeartbeats 400000 in
theorem Digits_calls (k : Nat) : ∀ (n : Int) (w : World), n.toNat < 128 ^ k → I64 n →
    Calls Try.prog 44 #[.int .i64 n] w fun e w' => ∃ u, e = .returned u ∧ Ow kByte 5 w' w.heap.size (w.heap.size ≤ ·) u (digs n.toNat) ∧ Ext w w' := by
  induction k with
  | zero => exact fun n w hk hn => Digits_small n w (by simp at hk; omega) hn
  | succ k ih =>
    intro n w hk hn
    by_cases hlt : n < 128
    · exact Digits_small n w hlt hn
    have IH := Lib.hid ih
    clear ih
    obtain ⟨h0, h1⟩ := hn
    have hq : (n / 128).toNat < 128 ^ k := by
      have : (n / 128).toNat = n.toNat / 128 := by omega
      rw [this]
      rw [Nat.pow_succ] at hk
      exact Nat.div_lt_of_lt_mul (by omega)
    have HQ := Lib.hid hq
    clear hq hk
    go_enter Try.func44, Try.ntmps44
    go_wp2_with fail
    refine (IH.out (n / 128) _ HQ.out ⟨by omega, by omega⟩).mono ?_
    rintro e w1 ⟨u, rfl, ho, he⟩
    have hD : (digs n.toNat) = hi (n / 128).toNat ++ [byt (n.toNat % 128)] := by
      rw [digs_big _ (by omega)]; congr 2; omega
    rw [hi_digs _ (by omega)] at hD
    have hl := digs_pos (n / 128).toNat
    have hla := digs_last (n / 128).toNat
    have hx : (n / 128).toNat % 128 < 128 := by omega
    have hlen := (digs_len (n / 128).toNat (by omega)).2
    obtain ⟨g, cap, rfl, hb, hg, hcap, _⟩ := ho.form hl
    generalize (n / 128).toNat % 128 = x at hD hla hx
    generalize hds : digs (n / 128).toNat = ds at ho hl hla hD hcap hlen
    have hc : w1.cell? ⟨g, ds.length - 1, none⟩ = some (.int .u8 (x : Int)) := by
      rw [(ho.scell (ds.length - 1) (by omega)).1]
      rw [List.getElem?_eq_getElem (by omega)] at hla
      injection hla with hla
      rw [hla, byt_toNat, Nat.mod_eq_of_lt (by omega)]
    have hf := (ho.scell (ds.length - 1) (by omega)).2
    have HO := Lib.hid ho
    have HE := Lib.hid he
    have HD := Lib.hid hD
    clear ho he hD hla hds HQ
    go_wp2_with (at_builtin; refine wpList_append_Rs kByte rfl (.tmp 21) (.tmp 25) 22 5 rfl tBytes w.heap.size _ _ (ds.set (ds.length - 1) (byt (128 + x))) [byt (n.toNat % 128)] (w.heap.size ≤ ·) (fun _ => True) rfl rfl ?co ?cr (fun _ _ h => h) ?cn ?cb ?cz ?_)
    case co =>
      have h2 := (HO.out.sset (ds.length - 1) (byt (128 + x)) trivial).1.alloc (.cells #[.int .u8 (n % 128)] 5)
      have h3 : Value.int .u8 ((x : Int) + 128) = encB (byt (128 + x)) := by rw [← byteval _ (by omega)]; congr 1; omega
      rw [h3]
      exact h2
    case cr =>
      have h3 : Value.int .u8 (n % 128) = encB (byt (n.toNat % 128)) := by rw [← byteval _ (by omega)]; congr 1; omega
      rw [h3]
      exact Rs.one_byte _ _ _ (by simp) _
    case cn => intro b hb; simp at hb; have := HE.out.le; omega
    case cb => simp; omega
    case cz => have := HE.out.le; simp; omega
    intro v' w2 ho hgr _
    rw [← HD.out] at ho
    have HO' := Lib.hid ho
    have HE' := Lib.hid (((HE.out.set (p := ⟨g, ds.length - 1, none⟩) hb (.int .u8 ((x : Int) + 128))).alloc _).grown hgr (fun k hk => by simp [Value.ownBlock] at hk; omega))
    clear ho hgr
    go_wp2
    go_ret
    exact ⟨_, rfl, HO'.out, HE'.out⟩

theorem Digits_any (n : Int) (w : World) (hn : I64 n) :
    Calls Try.prog 44 #[.int .i64 n] w fun e w' => ∃ u, e = .returned u ∧ Ow kByte 5 w' w.heap.size (w.heap.size ≤ ·) u (digs n.toNat) ∧ Ext w w' :=
  Digits_calls 9 n w (by have := hn.2; omega) hn

set_option maxHeartbeats 400000 in
theorem RefNumber_calls (w : World) (S : Nat → Prop) (v : Value) (bs : List UInt8) (n : Int) (hr : Rs kByte w S v bs) (hn : I64 n) (hsz : bs.length + 9 ≤ 140737488355328) :
    Calls Try.prog 17 #[v, .int .i64 n] w fun e w' => ∃ u, e = .returned u ∧ Ow kByte 5 w' w.heap.size (w.heap.size ≤ ·) u (bs ++ digs n.toNat) ∧ Ext w w' := by
  have HR := Lib.hid hr
  obtain ⟨A, c, rfl, hl, hc, hzl, hrow⟩ := hr
  clear hrow
  have HN := Lib.hid hn
  have hd := digs_len n.toNat (by have := hn.2; omega)
  have HD := Lib.hid hd
  clear hn hd
  go_enter Try.func17, Try.ntmps17
  go_wp2_with (first | fail | (at_builtin; refine wpList_append_Rs kByte rfl (.tmp 5) (.tmp 6) 22 5 rfl tBytes w.heap.size _ _ [] bs (w.heap.size ≤ ·) S rfl rfl ?co (HR.out.alloc _) (fun _ _ h => h) ?cn ?cb ?cz ?_))
  case co => exact Ow.slit (xs := []) (heap_alloc_new _ _) (Nat.le_refl _) (Nat.le_refl _) (by simp) (by simp)
  case cn => intro b hb; simp at hb; omega
  case cb => simp; omega
  case cz => simp
  intro v' w2 ho hg _
  have HO := Lib.hid ho
  have HE := Lib.hid (((Ext.refl w).alloc _).grown hg (fun k hk => by simp [Value.ownBlock] at hk; omega))
  clear ho hg
  go_wp2_with fail
  refine (Digits_any n _ HN.out).mono ?_
  rintro e w3 ⟨u, rfl, ho, he⟩
  have HO2 := Lib.hid (HO.out.ext he)
  have HU := Lib.hid ho
  have HE2 := Lib.hid (HE.out.trans he)
  clear ho he HO HE
  go_wp2_with (at_builtin; refine wpList_append_Rs kByte rfl (.tmp 7) (.tmp 9) 22 5 rfl tBytes w.heap.size _ _ _ _ (w.heap.size ≤ ·) _ rfl rfl HO2.out HU.out.rs (fun _ _ h => h) ?cn ?cb HE2.out.le ?_)
  case cn => intro b hb; have := HE2.out.le; omega
  case cb => have := HD.out; simp; omega
  intro v3 w4 ho hg _
  have HO := Lib.hid ho
  have HE := Lib.hid (HE2.out.grown hg HO2.out.from_)
  clear ho hg
  go_wp2
  go_ret
  refine ⟨_, rfl, ?_, HE.out⟩
  have := HO.out
  simpa using this

set_option maxHeartbeats 400000 in
theorem RefText_calls (w : World) (S : Nat → Prop) (v : Value) (bs : List UInt8) (s : ByteArray) (hr : Rs kByte w S v bs) (hsz : bs.length + 9 + s.size ≤ 140737488355328) :
    Calls Try.prog 20 #[v, .string s] w fun e w' => ∃ u, e = .returned u ∧ Ow kByte 5 w' w.heap.size (w.heap.size ≤ ·) u (bs ++ digs s.size ++ s.data.toList) ∧ Ext w w' := by
  have HR := Lib.hid hr
  clear hr
  go_enter Try.func20, Try.ntmps20
  go_wp2_with fail
  refine (RefNumber_calls w S v bs _ HR.out ⟨by omega, by omega⟩ (by omega)).mono ?_
  rintro e w' ⟨u, rfl, ho, he⟩
  have HO := Lib.hid ho
  have HE := Lib.hid he
  have hd := digs_len s.size (by omega)
  clear ho he
  go_wp2_with (at_builtin; refine wpList_append_str rfl (.tmp 8) (.tmp 9) 22 9 5 rfl tBytes tString w.heap.size _ _ _ _ rfl rfl HO.out (fun _ h => h) ?c1 HE.out.le ?_)
  case c1 => simp; omega
  intro v' w2 ho hg
  have HO' := Lib.hid ho
  have HE' := Lib.hid (HE.out.grown hg HO.out.from_)
  clear ho hg
  go_wp2
  go_ret
  refine ⟨_, rfl, ?_, HE'.out⟩
  rw [List.append_assoc]; exact HO'.out

set_option maxHeartbeats 400000 in
theorem RefFlag_calls (w : World) (S : Nat → Prop) (v : Value) (bs : List UInt8) (b : Bool) (hr : Rs kByte w S v bs) (hsz : bs.length + 9 ≤ 140737488355328) :
    Calls Try.prog 21 #[v, .bool b] w fun e w' => ∃ u, e = .returned u ∧ Ow kByte 5 w' w.heap.size (w.heap.size ≤ ·) u (bs ++ digs b.toNat) ∧ Ext w w' := by
  have HR := Lib.hid hr
  clear hr
  cases b
  all_goals
    go_enter Try.func21, Try.ntmps21
    go_wp2_with fail
    refine (RefNumber_calls w S v bs _ HR.out ⟨by omega, by omega⟩ (by omega)).mono ?_
    rintro e w' ⟨u, rfl, ho, he⟩
    have HO := Lib.hid ho
    have HE := Lib.hid he
    clear ho he
    go_wp2
    go_ret
    exact ⟨_, rfl, HO.out, HE.out⟩
end Go.Proofs.Ytikbpgcalmndoaa
