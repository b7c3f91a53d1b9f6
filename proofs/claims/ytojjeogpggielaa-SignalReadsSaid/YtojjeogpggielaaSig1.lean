/- Contracts of what signal.Parse calls: strings.CutPrefix, strings.Cut at one byte, digit. -/
import Derived.Test.YtojjeogpggielaaMemB
import Derived.Lib.Strings
import Derived.Lib.Slices
import Derived.Lib.Walk
import Derived.Lib.Bytealg
import Derived.Handy
import Derived.Deep.QuietTactic
import Derived.BigQuiet
set_option linter.unusedVariables false
namespace Go.Proofs.Ytojjeogpggielaa
open Go.RowKit

set_option maxHeartbeats 1000000 in
set_option maxRecDepth 100000 in
theorem indexByte_any (s : ByteArray) (c : Int) (w : World) :
    Calls Try.prog 137 #[.string s, .int .u8 c] w fun e w' => e = .returned (.int .i64 (Lib.indexByte s.data.toList c.toNat.toUInt8)) ∧ w' = w := by
  go_enter Try.func137, Try.ntmps137
  go_wp2
  rw [run_callFunc_extern Try.func141 (by kernel_rfl) (by kernel_rfl) (by kernel_rfl) (e := Extern.BytealgIndexByte.indexByte) (by kernel_rfl), Lib.run_indexByteString]
  simp only [Result.andThen]
  rw [Oper.upon_value]
  go_wp2
  go_ret
  exact ⟨rfl, rfl⟩

set_option maxHeartbeats 2000000 in
set_option maxRecDepth 100000 in
theorem index1_any (s : ByteArray) (c : UInt8) (w : World) :
    Calls Try.prog 133 #[.string s, .string ⟨#[c]⟩] w fun e w' => e = .returned (.int .i64 (Lib.indexByte s.data.toList c)) ∧ w' = w := by
  go_enter Try.func133, Try.ntmps133
  go_wp2_with (go_at_call 137; refine (indexByte_any _ _ _).mono ?_; rintro e w' ⟨rfl, rfl⟩)
  · have h : ([c] == s.toList) = true := by assumption
    go_ret
    refine ⟨?_, rfl⟩
    have e : s.data.toList = [c] := by rw [← Lib.toList_data]; exact (beq_iff_eq.1 h).symm
    rw [e]
    simp [Lib.indexByte]
  · go_ret
    exact ⟨rfl, rfl⟩

/-- What stands ahead of a byte, and behind it. -/
def cut1 (s : ByteArray) (c : UInt8) : ByteArray := if 0 ≤ Lib.indexByte s.data.toList c then s.extract 0 (Lib.indexByte s.data.toList c).toNat else s
def cut2 (s : ByteArray) (c : UInt8) : ByteArray := if 0 ≤ Lib.indexByte s.data.toList c then s.extract ((Lib.indexByte s.data.toList c).toNat + 1) s.size else ⟨#[]⟩

theorem indexByte_lt : ∀ (l : List UInt8) (c : UInt8), Lib.indexByte l c < l.length
  | [], c => by simp [Lib.indexByte]
  | b :: l, c => by
    have ih := indexByte_lt l c
    rw [Lib.indexByte]
    split
    · simp
    · split
      · rw [List.length_cons]; omega
      · rw [List.length_cons]; omega

set_option maxHeartbeats 2000000 in
theorem liteCut_any (s : ByteArray) (c : UInt8) (w : World) (hs : s.size ≤ maxLen) :
    Calls Try.prog 115 #[.string s, .string ⟨#[c]⟩] w fun e w' => e = .returned (.tuple #[.string (cut1 s c), .string (cut2 s c), .bool (decide (0 ≤ Lib.indexByte s.data.toList c))]) ∧ ∃ q, w' = w.drewN q := by
  obtain ⟨i, hi⟩ : ∃ i, i = Lib.indexByte s.data.toList c := ⟨_, rfl⟩
  have h1 := Lib.indexByte_ge s.data.toList c
  have h2 := indexByte_lt s.data.toList c
  rw [← hi] at h1 h2
  have hsz : s.data.toList.length = s.size := (Lib.size_eq s).symm
  rw [hsz] at h2
  have HI := Lib.hid hi
  unfold maxLen at hs
  clear hi hsz
  by_cases h0 : 0 ≤ i
  · obtain ⟨k, rfl⟩ := Int.eq_ofNat_of_zero_le h0
    have hk : k < s.size := by omega
    have hk1 : k + 1 ≤ s.size := hk
    have HC1 := Lib.hid (show cut1 s c = s.extract 0 k by unfold cut1; rw [← HI.out, if_pos h0]; rfl)
    have HC2 := Lib.hid (show cut2 s c = s.extract (k + 1) s.size by unfold cut2; rw [← HI.out, if_pos h0]; rfl)
    go_enter Try.func115, Try.ntmps115
    go_wp2_with (go_at_call 133; (with_reducible refine (index1_any s c _).mono ?_); rintro e w' ⟨rfl, rfl⟩; rw [← HI.out])
    go_quiet (fail)
    go_wp2
    go_ret3
    exact ⟨by rw [HC1.out, HC2.out, ← HI.out]; simp, _, rfl⟩
  · have HC1 := Lib.hid (show cut1 s c = s by unfold cut1; rw [← HI.out, if_neg h0])
    have HC2 := Lib.hid (show cut2 s c = ⟨#[]⟩ by unfold cut2; rw [← HI.out, if_neg h0])
    go_enter Try.func115, Try.ntmps115
    go_wp2_with (go_at_call 133; (with_reducible refine (index1_any s c _).mono ?_); rintro e w' ⟨rfl, rfl⟩; rw [← HI.out])
    go_ret3
    exact ⟨by rw [HC1.out, HC2.out, ← HI.out]; simp [h0], 0, rfl⟩

set_option maxHeartbeats 1000000 in
theorem cut_any1 (s : ByteArray) (c : UInt8) (w : World) (hs : s.size ≤ maxLen) :
    Calls Try.prog 81 #[.string s, .string ⟨#[c]⟩] w fun e w' => e = .returned (.tuple #[.string (cut1 s c), .string (cut2 s c), .bool (decide (0 ≤ Lib.indexByte s.data.toList c))]) ∧ ∃ q, w' = w.drewN q := by
  go_enter Try.func81, Try.ntmps81
  go_wp2_with (go_at_call 115; (with_reducible refine (liteCut_any s c _ hs).mono ?_); rintro e w' ⟨rfl, q, rfl⟩)
  go_ret3
  exact ⟨rfl, q, rfl⟩

set_option maxHeartbeats 1000000 in
theorem hasPrefix_any (s p : ByteArray) (w : World) :
    Calls Try.prog 132 #[.string s, .string p] w fun e w' => e = .returned (.bool (Lib.hasPrefix s.data.toList p.data.toList)) ∧ w' = w := by
  go_enter Try.func132, Try.ntmps132
  go_wp2
  · have h : p.size ≤ s.size := by assumption
    go_ret
    refine ⟨?_, rfl⟩
    rw [← Lib.hasPrefix_raw, decide_eq_true h]
    rfl
  · have h : ¬ p.size ≤ s.size := by assumption
    go_ret
    refine ⟨?_, rfl⟩
    rw [← Lib.hasPrefix_raw, decide_eq_false h]
    rfl

/-- A number in one digit, from one to another. -/
def digitOf (l : List UInt8) (lo hi : Int) : Int :=
  match l with
  | [x] => if (x.toNat : Int) < lo ∨ hi < (x.toNat : Int) then -1 else (x.toNat : Int) - 48
  | _ => -1

set_option maxHeartbeats 1000000 in
theorem digit_any (s : ByteArray) (lo hi : Int) (h1 : 48 ≤ lo) (h2 : hi ≤ 57) (w : World) :
    Calls Try.prog 82 #[.string s, .int .u8 lo, .int .u8 hi] w fun e w' => e = .returned (.int .i64 (digitOf s.data.toList lo hi)) ∧ w' = w := by
  by_cases hs : s.size = 1
  · obtain ⟨⟨l⟩⟩ := s
    obtain ⟨x, rfl⟩ : ∃ x, l = [x] := List.length_eq_one_iff.1 hs
    have hx := x.toNat_lt
    have hidx : ({ data := { toList := [x] } } : ByteArray)[0]'(Nat.one_pos) = x := rfl
    by_cases hc : (x.toNat : Int) < lo ∨ hi < (x.toNat : Int)
    · have hd : digitOf [x] lo hi = -1 := if_pos hc
      have HD := Lib.hid hd
      clear hd
      rcases hc with hc | hc
      all_goals
        go_enter Try.func82, Try.ntmps82
        go_wp2
      all_goals go_ret
      all_goals first | exact ⟨by rw [HD.out]; rfl, rfl⟩ | (exfalso; omega)
    · have hd : digitOf [x] lo hi = (x.toNat : Int) - 48 := if_neg hc
      have HD := Lib.hid hd
      have hc1 : lo ≤ (x.toNat : Int) := by omega
      have hc2 : (x.toNat : Int) ≤ hi := by omega
      clear hd hc
      go_enter Try.func82, Try.ntmps82
      go_wp2
      go_ret
      exact ⟨by rw [HD.out]; rfl, rfl⟩
  · have hd : digitOf s.data.toList lo hi = -1 := by
      have : ¬ s.data.toList.length = 1 := by rw [← Lib.size_eq]; exact hs
      unfold digitOf
      split
      · rename_i e; rw [e] at this; exact absurd rfl this
      · rfl
    rw [hd]
    go_enter Try.func82, Try.ntmps82
    go_wp2
    go_ret
    exact ⟨rfl, rfl⟩

set_option maxHeartbeats 1000000 in
theorem liteCutPrefix_any (s p : ByteArray) (w : World) :
    Calls Try.prog 114 #[.string s, .string p] w fun e w' => e = .returned (.tuple #[.string ⟨(Lib.trimPrefix s.data.toList p.data.toList).toArray⟩, .bool (Lib.hasPrefix s.data.toList p.data.toList)]) ∧ w' = w := by
  have hraw := Lib.hasPrefix_raw s p
  cases hb : Lib.hasPrefix s.data.toList p.data.toList
  · rw [hb] at hraw
    have HR := Lib.hid (Lib.trimPrefix_miss s p hraw)
    have HB := Lib.hid hb
    clear hraw hb
    go_enter Try.func114, Try.ntmps114
    go_wp2_with (go_at_call 132; (with_reducible refine (hasPrefix_any s p _).mono ?_); rintro e w' ⟨rfl, rfl⟩; rw [HB.out])
    go_ret2
    exact ⟨by rw [HR.out]; rfl, rfl⟩
  · rw [hb] at hraw
    have hle : p.size ≤ s.size := by simp at hraw; exact hraw.1
    have heq : ((s.extract 0 p.size).toList == p.toList) = true := by simp only [Bool.and_eq_true] at hraw; exact hraw.2
    have HR := Lib.hid (Lib.trimPrefix_hit s p hle heq)
    have HB := Lib.hid hb
    clear hraw hb heq
    go_enter Try.func114, Try.ntmps114
    go_wp2_with (go_at_call 132; (with_reducible refine (hasPrefix_any s p _).mono ?_); rintro e w' ⟨rfl, rfl⟩; rw [HB.out])
    go_ret2
    exact ⟨by rw [HR.out]; rfl, rfl⟩

set_option maxHeartbeats 1000000 in
theorem cutPrefix_any (s p : ByteArray) (w : World) :
    Calls Try.prog 80 #[.string s, .string p] w fun e w' => e = .returned (.tuple #[.string ⟨(Lib.trimPrefix s.data.toList p.data.toList).toArray⟩, .bool (Lib.hasPrefix s.data.toList p.data.toList)]) ∧ w' = w := by
  go_enter Try.func80, Try.ntmps80
  go_wp2_with (go_at_call 114; (with_reducible refine (liteCutPrefix_any s p _).mono ?_); rintro e w' ⟨rfl, rfl⟩)
  go_ret2
  exact ⟨rfl, rfl⟩
end Go.Proofs.Ytojjeogpggielaa
