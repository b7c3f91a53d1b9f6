/- Contracts: field.right, field.number, qanatref01.RightField, Num, Text, big, number. -/
import Derived.Test.YthhpddiicnjmmaaFldL
import Derived.Test.YthhpddiicnjmmaaStr
import Derived.Test.YthhpddiicnjmmaaModL
import Derived.BigGuardPart
import Derived.Handy
namespace Go.Proofs.Ythhpddiicnjmmaa
open Go.RowKit

theorem info_byte : (Try.prog.info? 5).map (fun i => (i.zero, i.size, i.bytes)) = some (some (.int .u8 0), 1, 1) := by kernel_rfl

theorem take_snoc {α : Type} {l : List α} {k : Nat} {x : α} (h : l[k]? = some x) : l.take (k + 1) = l.take k ++ [x] := by
  obtain ⟨hk, rfl⟩ := List.getElem?_eq_some_iff.1 h
  exact List.take_succ_eq_append_getElem hk

set_option maxRecDepth 100000 in
set_option maxHeartbeats 1000000 in
theorem right_any (f : Fld) (w : World) :
    Calls Try.prog 114 #[.agg #[.int .i64 f.kind, .int .i64 f.n, .string f.s]] w fun e w' => e = .returned (.bool (okField f)) ∧ Below w.heap.size w w' := by
  by_cases h1 : f.kind = 1
  · have H1 := Lib.hid h1
    have k1 : (f.kind == 1) = true := by simp [h1]
    clear h1
    go_enter Try.func114, Try.ntmps114
    go_wp2
    go_ret
    refine ⟨ret_bool ?_, (Below.refl _ _).alloc (Nat.le_refl _) _⟩
    unfold okField
    rw [str_empty]
    simp [H1.out]
  · have k1 : (f.kind == 1) = false := by simp [h1]
    by_cases h2 : f.kind = 2
    · have k2 : (f.kind == 2) = true := by simp [h2]
      have H2 := Lib.hid h2
      clear h2 h1
      go_enter Try.func114, Try.ntmps114
      go_wp2
      all_goals
        go_ret
        refine ⟨ret_bool ?_, (Below.refl _ _).alloc (Nat.le_refl _) _⟩
        unfold okField
        simp [*]
        try omega
    · have k2 : (f.kind == 2) = false := by simp [h2]
      have H2 := Lib.hid h2
      clear h2 h1
      go_enter Try.func114, Try.ntmps114
      go_wp2
      go_ret
      refine ⟨ret_bool ?_, (Below.refl _ _).alloc (Nat.le_refl _) _⟩
      unfold okField
      simp [k1, k2]

theorem byte_val (x k : Nat) : (x : Int) / 2 ^ (8 * k) % 256 = ((UInt8.ofNat (x / 256 ^ k)).toNat : Int) := by
  have h : (2 : Int) ^ (8 * k) = ((256 ^ k : Nat) : Int) := by
    rw [Int.pow_mul]; simp
  rw [h, UInt8.toNat_ofNat']
  omega

set_option maxRecDepth 100000 in
set_option maxHeartbeats 1000000 in
theorem number_any (v : Value) (l : List UInt8) (x n base : Nat) (xi ni : Int) (hxi : xi = (x : Int)) (hni : ni = (n : Int)) (S : Nat → Prop) (w : World) (ho : Own byteRep w base S 5 v l) (hb : base ≤ w.heap.size) (_ : x < 18446744073709551616) (hn : n ≤ 8) (hl : l.length ≤ 1000000000000) :
    Calls Try.prog 113 #[v, .int .u64 xi, .int .i64 ni] w fun e w' => ∃ v', e = .returned v' ∧ Own byteRep w' base S 5 v' (l ++ bigB x n) ∧ Below base w w' ∧ Appended w w' v v' := by
  obtain ⟨i0, hi, hz0, hz1, hz2⟩ := info_parts info_byte
  have HO := Lib.hid ho
  subst hxi hni
  clear ho
  go_enter Try.func113, Try.ntmps113
  go_wp2
  go_loopw [0, 7] (fun v1 i wr => ∃ (k : Nat) (pre : List UInt8), k ≤ n ∧ i = .int .i64 ((k : Int) - 1) ∧ pre ++ bigB x k = bigB x n ∧ pre.length ≤ 8 ∧ Own byteRep wr base S 5 v1 (l ++ pre) ∧ Below base w wr ∧ base ≤ wr.heap.size ∧ Appended w wr v v1) (fun _ i _ => (intOf i + 1).toNat)
  case atStart => exact ⟨n, [], Nat.le_refl _, by go_num, rfl, by simp, by simpa using HO.out, Below.refl _ _, hb, Appended.refl _ _⟩
  case round =>
    obtain ⟨k, pre, hk, rfl, hpre, hpl, hown, hbel, hbs, happ⟩ := hrel
    have HAP := Lib.hid happ
    clear happ
    have HO := Lib.hid hown
    have HP := Lib.hid hpre
    have hll : (l ++ pre).length ≤ 1000000000008 := by rw [List.length_append]; omega
    obtain ⟨L, hL⟩ : ∃ L, L = l ++ pre := ⟨_, rfl⟩
    rw [← hL] at hll HO
    have HL := Lib.hid hL
    clear hown hpre hL
    cases k with
    | zero =>
      go_wp2
      go_ret
      have hp := HP.out
      simp only [bigB, List.append_nil] at hp
      exact ⟨_, rfl, by rw [← hp, ← HL.out]; exact HO.out, hbel, HAP.out⟩
    | succ k =>
      go_wp2_with (at_builtin; (refine wpList_append_Own _ rfl _ _ 25 rfl base 5 i0 _ 1 Try.underlying25 hi hz0 hz1 hz2 rfl (R := byteRep) (S := S) (l := L) (l' := [UInt8.ofNat (x / 256 ^ k)]) u0 rfl (HO.out.alloc _) _ 1 1 rfl ?_ (by simp only [maxLen]; omega) (by omega) (by omega) (by simp; omega) ?_; exact Src.one (cs := [.int .u8 ((UInt8.ofNat (x / 256 ^ k)).toNat : Int)]) ⟨rfl, trivial⟩ (by intro j u hu; rw [World.cell?_alloc_at _ _ _ _ rfl, byte_val]; simpa using hu); intro v2 w2 own2 gr2 at2; have hb2 := (hbel.alloc hbs _).grown gr2 (by simp; omega) (fun g hg => HO.out.row_ge hg); have hs2 : base ≤ w2.heap.size := (by have := gr2.size; simp at this; omega); have HA2 := Lib.hid (HAP.out.trans (Appended.one gr2 at2).alloc); clear gr2 at2))
      go_roundw
      case rel => exact ⟨k, pre ++ [UInt8.ofNat (x / 256 ^ k)], by omega, by go_num, by rw [List.append_assoc]; exact HP.out, by have := congrArg List.length HP.out; simp [bigB_len] at this ⊢; omega, by rw [← List.append_assoc, ← HL.out]; exact own2, hb2, hs2, HA2.out⟩
      case measure => simp [intOf]

set_option maxRecDepth 100000 in
set_option maxHeartbeats 1000000 in
theorem rightField_any (f : Fld) (w : World) :
    Calls Try.prog 119 #[.agg #[.int .i64 f.kind, .int .i64 f.n, .string f.s]] w fun e w' => e = .returned (.bool (okField f)) ∧ Below w.heap.size w w' := by
  go_enter Try.func119, Try.ntmps119
  go_wp2
  all_goals
    go_ret
    refine ⟨ret_bool ?_, (Below.refl _ _).alloc (Nat.le_refl _) _⟩
    unfold okField
    have hse := str_empty f.s
    rw [← hse]
    simp [*]
    try omega

theorem num_any (n : Int) (w : World) :
    Calls Try.prog 22 #[.int .i64 n] w fun e w' => e = .returned (.agg #[.int .i64 1, .int .i64 n, .string ByteArray.empty]) ∧ Below w.heap.size w w' := by
  go_enter Try.func22, Try.ntmps22
  go_wp2
  go_returns
  exact ⟨rfl, (Below.refl _ _).alloc (Nat.le_refl _) _⟩

theorem text_any (s : ByteArray) (w : World) :
    Calls Try.prog 55 #[.string s] w fun e w' => e = .returned (.agg #[.int .i64 2, .int .i64 0, .string s]) ∧ Below w.heap.size w w' := by
  go_enter Try.func55, Try.ntmps55
  go_wp2
  go_returns
  exact ⟨rfl, (Below.refl _ _).alloc (Nat.le_refl _) _⟩

set_option maxRecDepth 100000 in
set_option maxHeartbeats 1000000 in
theorem big64_any (x n : Nat) (xi ni : Int) (hxi : xi = (x : Int)) (hni : ni = (n : Int)) (w : World) (_ : x < 18446744073709551616) (hn : n ≤ 8) :
    Calls Try.prog 118 #[.int .u64 xi, .int .i64 ni] w fun e w' => ∃ v', e = .returned v' ∧ Own byteRep w' w.heap.size (fun _ => False) 5 v' (bigB x n) ∧ Below w.heap.size w w' := by
  obtain ⟨i0, hi, hz0, hz1, hz2⟩ := info_parts info_byte
  subst hxi hni
  go_enter Try.func118, Try.ntmps118
  go_wp2
  go_loopw [5, 6] (fun v i wr => ∃ (k : Nat) (pre : List UInt8), k ≤ n ∧ i = .int .i64 ((k : Int) - 1) ∧ pre ++ bigB x k = bigB x n ∧ pre.length ≤ 8 ∧ Own byteRep wr w.heap.size (fun _ => False) 5 v pre ∧ Below w.heap.size w wr) (fun _ i _ => (intOf i + 1).toNat)
  case atStart => exact ⟨n, [], Nat.le_refl _, by go_num, rfl, by simp, Own.nil _ _ _ (fun _ h => h.elim) _ _, Below.refl _ _⟩
  case round =>
    obtain ⟨k, pre, hk, rfl, hpre, hpl, hown, hbel⟩ := hrel
    have HO := Lib.hid hown
    have HP := Lib.hid hpre
    have hbs := hbel.size
    clear hown hpre
    cases k with
    | zero =>
      go_wp2
      go_ret
      have hp := HP.out
      simp only [bigB, List.append_nil] at hp
      exact ⟨_, rfl, by rw [← hp]; exact HO.out, hbel⟩
    | succ k =>
      go_wp2_with (at_builtin; refine wpList_append_Own _ rfl _ _ 25 rfl w.heap.size 5 i0 _ 1 Try.underlying25 hi hz0 hz1 hz2 rfl (R := byteRep) (S := fun _ => False) (l := pre) (l' := [UInt8.ofNat (x / 256 ^ k)]) u5 rfl (HO.out.alloc _) _ 1 1 rfl ?_ (by simp only [maxLen]; omega) (by omega) (by omega) (by simp; omega) ?_; exact Src.one (cs := [.int .u8 ((UInt8.ofNat (x / 256 ^ k)).toNat : Int)]) ⟨rfl, trivial⟩ (by intro j u hu; rw [World.cell?_alloc_at _ _ _ _ rfl, byte_val]; simpa using hu); intro v2 w2 own2 gr2 at2; have hb2 := (hbel.alloc hbs _).grown gr2 (by simp; omega) (fun g hg => HO.out.row_ge hg); clear gr2 at2)
      go_roundw
      case rel => exact ⟨k, pre ++ [UInt8.ofNat (x / 256 ^ k)], by omega, by go_num, by rw [List.append_assoc]; exact HP.out, by have := congrArg List.length HP.out; simp [bigB_len] at this ⊢; omega, own2, hb2⟩
      case measure => simp [intOf]

theorem wrap_u64 (n : Nat) (h : n < 18446744073709551616) : IntKind.u64.wrap (n : Int) = (n : Int) := by
  simp [IntKind.wrap, IntKind.bits, IntKind.signed]
  omega

theorem or_u64 (p q : Nat) (hp : p < 2 ^ 64) (hq : q < 2 ^ 64) : bits .or .u64 (p : Int) (q : Int) = ((p ||| q : Nat) : Int) := by
  have h1 : (BitVec.ofInt 64 (p : Int)).toNat = p := by rw [BitVec.ofInt_natCast, BitVec.toNat_ofNat]; exact Nat.mod_eq_of_lt hp
  have h2 : (BitVec.ofInt 64 (q : Int)).toNat = q := by rw [BitVec.ofInt_natCast, BitVec.toNat_ofNat]; exact Nat.mod_eq_of_lt hq
  show IntKind.u64.wrap (((BitVec.ofInt 64 (p : Int)) ||| (BitVec.ofInt 64 (q : Int))).toNat : Int) = _
  rw [BitVec.toNat_or, h1, h2]
  exact wrap_u64 _ (Nat.or_lt_two_pow hp hq)

theorem or_byte (a : Nat) (c : UInt8) (h : a * 256 + c.toNat < 18446744073709551616) :
    bits .or .u64 (IntKind.u64.wrap ((a : Int) * 256)) (IntKind.u64.wrap (c.toNat : Int)) = ((a * 256 + c.toNat : Nat) : Int) := by
  have hc : c.toNat < 256 := c.toNat_lt
  have hA : a * 256 < 18446744073709551616 := Nat.lt_of_le_of_lt (Nat.le_add_right _ _) h
  have hC : c.toNat < 18446744073709551616 := Nat.lt_of_le_of_lt (Nat.le_add_left _ _) h
  have e1 : IntKind.u64.wrap ((a : Int) * 256) = ((a * 256 : Nat) : Int) := by
    have := wrap_u64 _ hA
    simpa using this
  have h3 : a * 256 ||| c.toNat = a * 256 + c.toNat := by
    have := Nat.two_pow_add_eq_or_of_lt (i := 8) hc a
    rw [Nat.mul_comm] at this
    exact this.symm
  exact ((congr (congrArg (bits .or .u64) e1) (wrap_u64 _ hC)).trans (or_u64 _ _ hA hC)).trans (congrArg Nat.cast h3)

theorem numB_step {l : List UInt8} {k : Nat} {x : UInt8} (hk : k < 8) (h : l[k]? = some x) : numB (l.take k) * 256 + x.toNat = numB (l.take (k + 1)) ∧ numB (l.take (k + 1)) < 18446744073709551616 := by
  rw [take_snoc h, numB_snoc]
  refine ⟨rfl, ?_⟩
  rw [← numB_snoc, ← take_snoc h]
  refine Nat.lt_of_lt_of_le (numB_lt _) ?_
  have h8 : (256 : Nat) ^ 8 = 18446744073709551616 := by decide +kernel
  rw [← h8]
  exact Nat.pow_le_pow_right (by omega) (Nat.le_trans (List.length_take_le _ _) (by omega))

set_option maxRecDepth 100000 in
set_option maxHeartbeats 1000000 in
theorem refnumber_any (A : Option Addr) (n c : Nat) (l : List UInt8) (w : World) (h : IsSl byteRep w (· < w.heap.size) A n l) (hn : n ≤ 8) :
    Calls Try.prog 129 #[.slice A n c] w fun e w' => e = .returned (.int .u64 (numB l : Int)) ∧ w = w' := by
  go_enter Try.func129, Try.ntmps129
  go_wp2
  go_loop [3, 4] (fun v i => ∃ k : Nat, k ≤ n ∧ i = .int .i64 k ∧ v = .int .u64 (numB (l.take k) : Int)) (fun _ i => n - (intOf i).toNat)
  case atStart => exact ⟨0, Nat.zero_le _, rfl, rfl⟩
  case round =>
    obtain ⟨k, hk, rfl, rfl⟩ := hrel
    by_cases hlt : k < n
    · obtain ⟨b, off, x, cs, rfl, hbS, hx, ⟨rfl, _⟩, hc⟩ := h.at_ hlt
      have c0 : w.cell? ⟨b, off + k, none⟩ = some (.int .u8 (x.toNat : Int)) := by have := hc 0 _ rfl; simpa [byteRep, Rep.flat] using this
      have hst := numB_step (by omega) hx
      have hor := or_byte (numB (l.take k)) x (by omega)
      have HT := Lib.hid hst.1
      have HO := Lib.hid hor
      clear hc hx hst hor
      go_wp2
      go_round
      case rel => exact ⟨k + 1, by omega, by go_num, by rw [HO.out, HT.out]⟩
      case measure => simp [intOf]; omega
    · go_wp2
      go_ret
      exact ⟨ret_int (by rw [List.take_of_length_le (by rw [← h.len]; omega)]), rfl⟩
end Go.Proofs.Ythhpddiicnjmmaa
