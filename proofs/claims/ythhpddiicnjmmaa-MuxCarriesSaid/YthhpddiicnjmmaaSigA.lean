/- Contracts of what signal.Parse calls: strings.CutPrefix, strings.Cut at one byte, digit. Contracts: signal.Parse, the reference's Parse. Contract: signal.Parse. Contract: the reference's Parse. -/
import Derived.Test.YthhpddiicnjmmaaMemB
import Derived.Lib.Strings
import Derived.Lib.Slices
import Derived.Lib.Walk
import Derived.Lib.Bytealg
import Derived.Handy
import Derived.Deep.QuietTactic
import Derived.BigQuiet
set_option linter.unusedVariables false
namespace Go.Proofs.Ythhpddiicnjmmaa
open Go.RowKit

set_option maxHeartbeats 1000000 in
set_option maxRecDepth 100000 in
theorem indexByte_any (s : ByteArray) (c : Int) (w : World) :
    Calls Try.prog 171 #[.string s, .int .u8 c] w fun e w' => e = .returned (.int .i64 (Lib.indexByte s.data.toList c.toNat.toUInt8)) ∧ w' = w := by
  go_enter Try.func171, Try.ntmps171
  go_wp2
  rw [run_callFunc_extern Try.func175 (by kernel_rfl) (by kernel_rfl) (by kernel_rfl) (e := Extern.BytealgIndexByte.indexByte) (by kernel_rfl), Lib.run_indexByteString]
  simp only [Result.andThen]
  rw [Oper.upon_value]
  go_wp2
  go_ret
  exact ⟨rfl, rfl⟩

set_option maxHeartbeats 2000000 in
set_option maxRecDepth 100000 in
theorem index1_any (s : ByteArray) (c : UInt8) (w : World) :
    Calls Try.prog 170 #[.string s, .string ⟨#[c]⟩] w fun e w' => e = .returned (.int .i64 (Lib.indexByte s.data.toList c)) ∧ w' = w := by
  go_enter Try.func170, Try.ntmps170
  go_wp2_with (go_at_call 171; refine (indexByte_any _ _ _).mono ?_; rintro e w' ⟨rfl, rfl⟩)
  · have h : ([c] == s.toList) = true := by assumption
    go_ret
    refine ⟨?_, rfl⟩
    have e : s.data.toList = [c] := by rw [← Lib.toList_data]; exact (beq_iff_eq.1 h).symm
    rw [e]
    simp [Lib.indexByte]
  · go_ret
    exact ⟨rfl, rfl⟩

/-- What stands ahead of a byte, and behind it. -/
def cut1 (s : ByteArray) (c : UInt8) : ByteArray := if 0 ≤ Lib.indexByte s.data.toList c then s.extract 0 (Lib.indexByte s.data.toList c).toNat else s
def cut2 (s : ByteArray) (c : UInt8) : ByteArray := if 0 ≤ Lib.indexByte s.data.toList c then s.extract ((Lib.indexByte s.data.toList c).toNat + 1) s.size else ⟨#[]⟩

theorem indexByte_lt : ∀ (l : List UInt8) (c : UInt8), Lib.indexByte l c < l.length
  | [], c => by simp [Lib.indexByte]
  | b :: l, c => by
    have ih := indexByte_lt l c
    rw [Lib.indexByte]
    split
    · simp
    · split
      · rw [List.length_cons]; omega
      · rw [List.length_cons]; omega

set_option maxHeartbeats 2000000 in
theorem liteCut_any (s : ByteArray) (c : UInt8) (w : World) (hs : s.size ≤ maxLen) :
    Calls Try.prog 168 #[.string s, .string ⟨#[c]⟩] w fun e w' => e = .returned (.tuple #[.string (cut1 s c), .string (cut2 s c), .bool (decide (0 ≤ Lib.indexByte s.data.toList c))]) ∧ ∃ q, w' = w.drewN q := by
  obtain ⟨i, hi⟩ : ∃ i, i = Lib.indexByte s.data.toList c := ⟨_, rfl⟩
  have h1 := Lib.indexByte_ge s.data.toList c
  have h2 := indexByte_lt s.data.toList c
  rw [← hi] at h1 h2
  have hsz : s.data.toList.length = s.size := (Lib.size_eq s).symm
  rw [hsz] at h2
  have HI := Lib.hid hi
  unfold maxLen at hs
  clear hi hsz
  by_cases h0 : 0 ≤ i
  · obtain ⟨k, rfl⟩ := Int.eq_ofNat_of_zero_le h0
    have hk : k < s.size := by omega
    have hk1 : k + 1 ≤ s.size := hk
    have HC1 := Lib.hid (show cut1 s c = s.extract 0 k by unfold cut1; rw [← HI.out, if_pos h0]; rfl)
    have HC2 := Lib.hid (show cut2 s c = s.extract (k + 1) s.size by unfold cut2; rw [← HI.out, if_pos h0]; rfl)
    go_enter Try.func168, Try.ntmps168
    go_wp2_with (go_at_call 170; (with_reducible refine (index1_any s c _).mono ?_); rintro e w' ⟨rfl, rfl⟩; rw [← HI.out])
    go_quiet (fail)
    go_wp2
    go_ret3
    exact ⟨by rw [HC1.out, HC2.out, ← HI.out]; simp, _, rfl⟩
  · have HC1 := Lib.hid (show cut1 s c = s by unfold cut1; rw [← HI.out, if_neg h0])
    have HC2 := Lib.hid (show cut2 s c = ⟨#[]⟩ by unfold cut2; rw [← HI.out, if_neg h0])
    go_enter Try.func168, Try.ntmps168
    go_wp2_with (go_at_call 170; (with_reducible refine (index1_any s c _).mono ?_); rintro e w' ⟨rfl, rfl⟩; rw [← HI.out])
    go_ret3
    exact ⟨by rw [HC1.out, HC2.out, ← HI.out]; simp [h0], 0, rfl⟩

set_option maxHeartbeats 1000000 in
theorem cut_any1 (s : ByteArray) (c : UInt8) (w : World) (hs : s.size ≤ maxLen) :
    Calls Try.prog 163 #[.string s, .string ⟨#[c]⟩] w fun e w' => e = .returned (.tuple #[.string (cut1 s c), .string (cut2 s c), .bool (decide (0 ≤ Lib.indexByte s.data.toList c))]) ∧ ∃ q, w' = w.drewN q := by
  go_enter Try.func163, Try.ntmps163
  go_wp2_with (go_at_call 168; (with_reducible refine (liteCut_any s c _ hs).mono ?_); rintro e w' ⟨rfl, q, rfl⟩)
  go_ret3
  exact ⟨rfl, q, rfl⟩

set_option maxHeartbeats 1000000 in
theorem hasPrefix_any (s p : ByteArray) (w : World) :
    Calls Try.prog 169 #[.string s, .string p] w fun e w' => e = .returned (.bool (Lib.hasPrefix s.data.toList p.data.toList)) ∧ w' = w := by
  go_enter Try.func169, Try.ntmps169
  go_wp2
  · have h : p.size ≤ s.size := by assumption
    go_ret
    refine ⟨?_, rfl⟩
    rw [← Lib.hasPrefix_raw, decide_eq_true h]
    rfl
  · have h : ¬ p.size ≤ s.size := by assumption
    go_ret
    refine ⟨?_, rfl⟩
    rw [← Lib.hasPrefix_raw, decide_eq_false h]
    rfl

/-- A number in one digit, from one to another. -/
def digitOf (l : List UInt8) (lo hi : Int) : Int :=
  match l with
  | [x] => if (x.toNat : Int) < lo ∨ hi < (x.toNat : Int) then -1 else (x.toNat : Int) - 48
  | _ => -1

set_option maxHeartbeats 1000000 in
theorem digit_any (s : ByteArray) (lo hi : Int) (h1 : 48 ≤ lo) (h2 : hi ≤ 57) (w : World) :
    Calls Try.prog 164 #[.string s, .int .u8 lo, .int .u8 hi] w fun e w' => e = .returned (.int .i64 (digitOf s.data.toList lo hi)) ∧ w' = w := by
  by_cases hs : s.size = 1
  · obtain ⟨⟨l⟩⟩ := s
    obtain ⟨x, rfl⟩ : ∃ x, l = [x] := List.length_eq_one_iff.1 hs
    have hx := x.toNat_lt
    have hidx : ({ data := { toList := [x] } } : ByteArray)[0]'(Nat.one_pos) = x := rfl
    by_cases hc : (x.toNat : Int) < lo ∨ hi < (x.toNat : Int)
    · have hd : digitOf [x] lo hi = -1 := if_pos hc
      have HD := Lib.hid hd
      clear hd
      rcases hc with hc | hc
      all_goals
        go_enter Try.func164, Try.ntmps164
        go_wp2
      all_goals go_ret
      all_goals first | exact ⟨by rw [HD.out]; rfl, rfl⟩ | (exfalso; omega)
    · have hd : digitOf [x] lo hi = (x.toNat : Int) - 48 := if_neg hc
      have HD := Lib.hid hd
      have hc1 : lo ≤ (x.toNat : Int) := by omega
      have hc2 : (x.toNat : Int) ≤ hi := by omega
      clear hd hc
      go_enter Try.func164, Try.ntmps164
      go_wp2
      go_ret
      exact ⟨by rw [HD.out]; rfl, rfl⟩
  · have hd : digitOf s.data.toList lo hi = -1 := by
      have : ¬ s.data.toList.length = 1 := by rw [← Lib.size_eq]; exact hs
      unfold digitOf
      split
      · rename_i e; rw [e] at this; exact absurd rfl this
      · rfl
    rw [hd]
    go_enter Try.func164, Try.ntmps164
    go_wp2
    go_ret
    exact ⟨rfl, rfl⟩

set_option maxHeartbeats 1000000 in
theorem liteCutPrefix_any (s p : ByteArray) (w : World) :
    Calls Try.prog 167 #[.string s, .string p] w fun e w' => e = .returned (.tuple #[.string ⟨(Lib.trimPrefix s.data.toList p.data.toList).toArray⟩, .bool (Lib.hasPrefix s.data.toList p.data.toList)]) ∧ w' = w := by
  have hraw := Lib.hasPrefix_raw s p
  cases hb : Lib.hasPrefix s.data.toList p.data.toList
  · rw [hb] at hraw
    have HR := Lib.hid (Lib.trimPrefix_miss s p hraw)
    have HB := Lib.hid hb
    clear hraw hb
    go_enter Try.func167, Try.ntmps167
    go_wp2_with (go_at_call 169; (with_reducible refine (hasPrefix_any s p _).mono ?_); rintro e w' ⟨rfl, rfl⟩; rw [HB.out])
    go_ret2
    exact ⟨by rw [HR.out]; rfl, rfl⟩
  · rw [hb] at hraw
    have hle : p.size ≤ s.size := by simp at hraw; exact hraw.1
    have heq : ((s.extract 0 p.size).toList == p.toList) = true := by simp only [Bool.and_eq_true] at hraw; exact hraw.2
    have HR := Lib.hid (Lib.trimPrefix_hit s p hle heq)
    have HB := Lib.hid hb
    clear hraw hb heq
    go_enter Try.func167, Try.ntmps167
    go_wp2_with (go_at_call 169; (with_reducible refine (hasPrefix_any s p _).mono ?_); rintro e w' ⟨rfl, rfl⟩; rw [HB.out])
    go_ret2
    exact ⟨by rw [HR.out]; rfl, rfl⟩

set_option maxHeartbeats 1000000 in
theorem cutPrefix_any (s p : ByteArray) (w : World) :
    Calls Try.prog 162 #[.string s, .string p] w fun e w' => e = .returned (.tuple #[.string ⟨(Lib.trimPrefix s.data.toList p.data.toList).toArray⟩, .bool (Lib.hasPrefix s.data.toList p.data.toList)]) ∧ w' = w := by
  go_enter Try.func162, Try.ntmps162
  go_wp2_with (go_at_call 167; (with_reducible refine (liteCutPrefix_any s p _).mono ?_); rintro e w' ⟨rfl, rfl⟩)
  go_ret2
  exact ⟨rfl, rfl⟩
end Go.Proofs.Ythhpddiicnjmmaa

set_option linter.unusedVariables false
namespace Go.Proofs.Ythhpddiicnjmmaa
open Go.RowKit

/-- The word that begins a signal. -/
def wordL : List UInt8 := [115, 110, 97, 112, 115, 104, 111, 116, 32]

/-- What is behind the word: a table's digit, perhaps a blank and a weight's. -/
def restOf (r : List UInt8) : Int × Int × Bool :=
  match r with
  | [x] => if 48 ≤ x.toNat ∧ x.toNat ≤ 55 then ((x.toNat : Int) - 48, 1, true) else (0, 0, false)
  | [x, a, y] => if 48 ≤ x.toNat ∧ x.toNat ≤ 55 ∧ a = 32 ∧ 49 ≤ y.toNat ∧ y.toNat ≤ 56 then ((x.toNat : Int) - 48, (y.toNat : Int) - 48, true) else (0, 0, false)
  | _ => (0, 0, false)

/-- What a signal asks for. -/
def parseS (l : List UInt8) : Int × Int × Bool := if Lib.hasPrefix l wordL then restOf (l.drop 9) else (0, 0, false)

/-- A digit ahead of the first blank, and one behind it. -/
def tab (s : ByteArray) : Int := digitOf (cut1 s 32).data.toList 48 55
def wgt (s : ByteArray) : Int := if 0 ≤ Lib.indexByte s.data.toList 32 then digitOf (cut2 s 32).data.toList 49 56 else 1

theorem restA (a t : List UInt8) (ha : (32 : UInt8) ∉ a) : restOf (a ++ 32 :: t) = if digitOf a 48 55 < 0 ∨ digitOf t 49 56 < 0 then (0, 0, false) else (digitOf a 48 55, digitOf t 49 56, true) := by
  match a, t with
  | [], [] => simp [restOf, digitOf]
  | [], [_] => simp [restOf, digitOf]
  | [], [_, _] => simp [restOf, digitOf]
  | [], _ :: _ :: _ :: _ => simp [restOf, digitOf]
  | [x], [] => simp [restOf, digitOf]
  | [x], [y] =>
    have hx := x.toNat_lt
    have hy := y.toNat_lt
    show (if 48 ≤ x.toNat ∧ x.toNat ≤ 55 ∧ (32 : UInt8) = 32 ∧ 49 ≤ y.toNat ∧ y.toNat ≤ 56 then ((x.toNat : Int) - 48, (y.toNat : Int) - 48, true) else ((0 : Int), (0 : Int), false)) = _
    by_cases h1 : (x.toNat : Int) < 48 ∨ 55 < (x.toNat : Int)
    · have d1 : digitOf [x] 48 55 = -1 := if_pos h1
      rw [d1, if_neg (by omega), if_pos (by omega)]
    · have d1 : digitOf [x] 48 55 = (x.toNat : Int) - 48 := if_neg h1
      by_cases h2 : (y.toNat : Int) < 49 ∨ 56 < (y.toNat : Int)
      · have d2 : digitOf [y] 49 56 = -1 := if_pos h2
        rw [d2, if_neg (by omega), if_pos (by omega)]
      · have d2 : digitOf [y] 49 56 = (y.toNat : Int) - 48 := if_neg h2
        rw [d1, d2, if_pos ⟨by omega, by omega, rfl, by omega, by omega⟩, if_neg (by omega)]
  | [x], _ :: _ :: _ => simp [restOf, digitOf]
  | [x, y], [] =>
    have hy : ¬ y = 32 := fun e => ha (by simp [e])
    simp [restOf, digitOf, hy]
  | [x, y], _ :: _ => simp [restOf, digitOf]
  | [x, y, z], t => simp [restOf, digitOf]
  | x :: y :: z :: q :: a', t => simp [restOf, digitOf]

theorem restB (a : List UInt8) (ha : (32 : UInt8) ∉ a) : restOf a = if digitOf a 48 55 < 0 then (0, 0, false) else (digitOf a 48 55, 1, true) := by
  match a with
  | [] => simp [restOf, digitOf]
  | [x] =>
    have hx := x.toNat_lt
    show (if 48 ≤ x.toNat ∧ x.toNat ≤ 55 then ((x.toNat : Int) - 48, (1 : Int), true) else ((0 : Int), (0 : Int), false)) = _
    by_cases h1 : (x.toNat : Int) < 48 ∨ 55 < (x.toNat : Int)
    · have d1 : digitOf [x] 48 55 = -1 := if_pos h1
      rw [d1, if_neg (by omega), if_pos (by omega)]
    · have d1 : digitOf [x] 48 55 = (x.toNat : Int) - 48 := if_neg h1
      rw [d1, if_pos (by omega), if_neg (by omega)]
  | [x, y] => simp [restOf, digitOf]
  | [x, y, z] =>
    have hy : ¬ y = 32 := fun e => ha (by simp [e])
    simp [restOf, digitOf, hy]
  | x :: y :: z :: q :: a' => simp [restOf, digitOf]

theorem indexByte_take : ∀ (l : List UInt8) (c : UInt8) (k : Nat), Lib.indexByte l c = (k : Int) → ∃ t, l = l.take k ++ c :: t ∧ l.drop (k + 1) = t ∧ c ∉ l.take k
  | [], c, k, h => by simp [Lib.indexByte] at h
  | b :: l, c, k, h => by
    rw [Lib.indexByte] at h
    split at h
    · rename_i e
      have e := eq_of_beq e
      obtain rfl : k = 0 := by omega
      subst e
      exact ⟨l, by simp, by simp, by simp⟩
    · rename_i hb
      split at h
      · omega
      · obtain ⟨j, rfl⟩ : ∃ j, k = j + 1 := ⟨k - 1, by
          have := Lib.indexByte_ge l c
          rename_i h2
          have h2 : ¬ Lib.indexByte l c = -1 := by simpa using h2
          omega⟩
        obtain ⟨t, h1, h2, h3⟩ := indexByte_take l c j (by omega)
        refine ⟨t, ?_, by simpa using h2, ?_⟩
        · simp only [List.take_succ_cons, List.cons_append]; rw [← h1]
        · simp only [List.take_succ_cons, List.mem_cons, not_or]
          exact ⟨fun e => hb (by simp [e]), h3⟩

theorem indexByte_none : ∀ (l : List UInt8) (c : UInt8), Lib.indexByte l c < 0 → c ∉ l
  | [], c, h => by simp
  | b :: l, c, h => by
    have ih := indexByte_none l c
    have hge := Lib.indexByte_ge l c
    rw [Lib.indexByte] at h
    split at h
    · omega
    · rename_i hb
      split at h
      · rename_i h2
        have h2 : Lib.indexByte l c = -1 := by simpa using h2
        simp only [List.mem_cons, not_or]
        exact ⟨fun e => hb (by simp [e]), ih (by omega)⟩
      · rename_i h2
        have h2 : ¬ Lib.indexByte l c = -1 := by simpa using h2
        omega

/-- The program's way to the rest is the document's. -/
theorem rest_eq (s : ByteArray) : restOf s.data.toList = if tab s < 0 ∨ wgt s < 0 then (0, 0, false) else (tab s, wgt s, true) := by
  by_cases h0 : 0 ≤ Lib.indexByte s.data.toList 32
  · obtain ⟨k, hk⟩ := Int.eq_ofNat_of_zero_le h0
    obtain ⟨t, h1, h2, h3⟩ := indexByte_take _ 32 k hk
    have e1 : tab s = digitOf (s.data.toList.take k) 48 55 := by
      unfold tab cut1
      rw [if_pos h0, hk, Lib.extract_eq]
      simp
    have e2 : wgt s = digitOf t 49 56 := by
      unfold wgt cut2
      rw [if_pos h0, if_pos h0, hk, Lib.extract_eq]
      show digitOf ((s.data.toList.drop (k + 1)).take (s.size - (k + 1))) 49 56 = _
      rw [h2, List.take_of_length_le (by rw [← h2, List.length_drop, Lib.size_eq]; exact Nat.le_refl _)]
    rw [e1, e2]
    conv => lhs; rw [h1]
    exact restA _ t h3
  · have e1 : tab s = digitOf s.data.toList 48 55 := by unfold tab cut1; rw [if_neg h0]
    have e2 : wgt s = 1 := by unfold wgt; rw [if_neg h0]
    rw [e1, e2, restB _ (indexByte_none _ _ (by omega))]
    by_cases h : digitOf s.data.toList 48 55 < 0
    · rw [if_pos h, if_pos (.inl h)]
    · rw [if_neg h, if_neg (by omega)]
end Go.Proofs.Ythhpddiicnjmmaa

set_option linter.unusedVariables false
namespace Go.Proofs.Ythhpddiicnjmmaa
open Go.RowKit

/-- A signal as the calls answer it. -/
def sigV (x : Int × Int × Bool) : Value := .tuple #[.agg #[.int .i64 x.1, .int .i64 x.2.1], .bool x.2.2]

set_option maxHeartbeats 2000000 in
theorem parse_any (s : ByteArray) (w : World) (hs : s.size ≤ maxLen) :
    Calls Try.prog 155 #[.string s] w fun e w' => e = .returned (sigV (parseS s.data.toList)) ∧ Below w.heap.size w w' := by
  cases hb : Lib.hasPrefix s.data.toList wordL
  · have HP := Lib.hid (show parseS s.data.toList = (0, 0, false) by unfold parseS; rw [hb]; rfl)
    have HB := Lib.hid (show Lib.hasPrefix s.data.toList (⟨#[115, 110, 97, 112, 115, 104, 111, 116, 32]⟩ : ByteArray).data.toList = false from hb)
    clear hb
    go_enter Try.func155, Try.ntmps155
    go_wp2_with (first
      | (go_at_call 162; (with_reducible refine (cutPrefix_any s _ _).mono ?_); rintro e w' ⟨rfl, rfl⟩; rw [HB.out])
      | fail)
    go_returns
    exact ⟨by rw [HP.out]; rfl, (Below.refl _ _).alloc (Nat.le_refl _) _⟩
  · have HP0 : Hid (parseS s.data.toList = restOf (s.data.toList.drop 9)) := Lib.hid (by unfold parseS; rw [hb]; rfl)
    have HB := Lib.hid (show Lib.hasPrefix s.data.toList (⟨#[115, 110, 97, 112, 115, 104, 111, 116, 32]⟩ : ByteArray).data.toList = true from hb)
    obtain ⟨r, hr⟩ : ∃ r : ByteArray, r = ⟨(Lib.trimPrefix s.data.toList (⟨#[115, 110, 97, 112, 115, 104, 111, 116, 32]⟩ : ByteArray).data.toList).toArray⟩ := ⟨_, rfl⟩
    have hrd : r.data.toList = s.data.toList.drop 9 := by
      rw [hr]
      show Lib.trimPrefix s.data.toList wordL = _
      unfold Lib.trimPrefix
      rw [if_pos hb]
      rfl
    have hrs : r.size ≤ maxLen := by rw [Lib.size_eq, hrd, List.length_drop, ← Lib.size_eq]; omega
    have HR := Lib.hid hr
    have HP := Lib.hid (show parseS s.data.toList = if tab r < 0 ∨ wgt r < 0 then (0, 0, false) else (tab r, wgt r, true) by rw [HP0.out, ← hrd]; exact rest_eq r)
    clear hb hr hrd HP0
    obtain ⟨t, ht⟩ : ∃ t, t = tab r := ⟨_, rfl⟩
    obtain ⟨g, hg⟩ : ∃ g, g = digitOf (cut2 r 32).data.toList 49 56 := ⟨_, rfl⟩
    have HT := Lib.hid (show digitOf (cut1 r 32).data.toList 48 55 = t from ht.symm)
    have HG := Lib.hid hg
    by_cases h0 : 0 ≤ Lib.indexByte r.data.toList 32
    · have hw : wgt r = g := by unfold wgt; rw [if_pos h0, ← hg]
      have HP2 := HP.out
      rw [← ht, hw] at HP2
      have HPP := Lib.hid HP2
      have H0 := Lib.hid (show decide (0 ≤ Lib.indexByte r.data.toList 32) = true from decide_eq_true h0)
      clear ht hg hw HP2 HP h0
      have hc : t < 0 ∨ (¬ t < 0 ∧ g < 0) ∨ (¬ t < 0 ∧ ¬ g < 0) := by omega
      rcases hc with hc | ⟨hc, hd⟩ | ⟨hc, hd⟩
      all_goals
        go_enter Try.func155, Try.ntmps155
        go_wp2_with (first
          | (go_at_call 162; (with_reducible refine (cutPrefix_any s _ _).mono ?_); rintro e w' ⟨rfl, rfl⟩; rw [HB.out, ← HR.out])
          | (go_at_call 163; (with_reducible refine (cut_any1 r 32 _ hrs).mono ?_); rintro e w' ⟨rfl, q, rfl⟩; rw [H0.out])
          | (go_at_call 164; (with_reducible refine (digit_any (cut1 r 32) 48 55 (by omega) (by omega) _).mono ?_); rintro e w' ⟨rfl, rfl⟩; rw [HT.out])
          | (go_at_call 164; (with_reducible refine (digit_any (cut2 r 32) 49 56 (by omega) (by omega) _).mono ?_); rintro e w' ⟨rfl, rfl⟩; rw [← HG.out])
          | fail)
        go_returns
        refine ⟨?_, ?_⟩
        · rw [HPP.out]
          first
            | (rw [if_pos (by omega)]; rfl)
            | (rw [if_neg (by omega)]; rfl)
        · repeat first | exact Below.refl _ _ | refine Below.alloc ?_ (by simp) _ | refine Below.setCell ?_ (by simp) _ | refine below_drewN ?_ _
    · have hw : wgt r = 1 := by unfold wgt; rw [if_neg h0]
      have HP2 := HP.out
      rw [← ht, hw] at HP2
      have HPP := Lib.hid HP2
      have H0 := Lib.hid (show decide (0 ≤ Lib.indexByte r.data.toList 32) = false from decide_eq_false h0)
      clear ht hg hw HP2 HP h0
      have hc : t < 0 ∨ ¬ t < 0 := by omega
      rcases hc with hc | hc
      all_goals
        go_enter Try.func155, Try.ntmps155
        go_wp2_with (first
          | (go_at_call 162; (with_reducible refine (cutPrefix_any s _ _).mono ?_); rintro e w' ⟨rfl, rfl⟩; rw [HB.out, ← HR.out])
          | (go_at_call 163; (with_reducible refine (cut_any1 r 32 _ hrs).mono ?_); rintro e w' ⟨rfl, q, rfl⟩; rw [H0.out])
          | (go_at_call 164; (with_reducible refine (digit_any (cut1 r 32) 48 55 (by omega) (by omega) _).mono ?_); rintro e w' ⟨rfl, rfl⟩; rw [HT.out])
          | (go_at_call 164; (with_reducible refine (digit_any (cut2 r 32) 49 56 (by omega) (by omega) _).mono ?_); rintro e w' ⟨rfl, rfl⟩; rw [← HG.out])
          | fail)
        go_returns
        refine ⟨?_, ?_⟩
        · rw [HPP.out]
          first
            | (rw [if_pos (by omega)]; rfl)
            | (rw [if_neg (by omega)]; rfl)
        · repeat first | exact Below.refl _ _ | refine Below.alloc ?_ (by simp) _ | refine Below.setCell ?_ (by simp) _ | refine below_drewN ?_ _

end Go.Proofs.Ythhpddiicnjmmaa

set_option linter.unusedVariables false
namespace Go.Proofs.Ythhpddiicnjmmaa
open Go.RowKit

theorem byte_at (s : ByteArray) (k : Nat) (h : k < s.size) : s.data.toList.drop k = s[k] :: s.data.toList.drop (k + 1) := by
  have h' : k < s.data.toList.length := by rw [← Lib.size_eq]; exact h
  rw [List.drop_eq_getElem_cons h']
  rfl

theorem rest10 (s : ByteArray) (h : s.size = 10) : s.data.toList.drop 9 = [s[9]'(by omega)] := by
  rw [byte_at s 9 (by omega), List.drop_eq_nil_of_le (by rw [← Lib.size_eq]; omega)]

theorem rest12 (s : ByteArray) (h : s.size = 12) : s.data.toList.drop 9 = [s[9]'(by omega), s[10]'(by omega), s[11]'(by omega)] := by
  rw [byte_at s 9 (by omega), byte_at s 10 (by omega), byte_at s 11 (by omega), List.drop_eq_nil_of_le (by rw [← Lib.size_eq]; omega)]

theorem parseS_len (s : ByteArray) (h : s.size ≠ 10) (h2 : s.size ≠ 12) : parseS s.data.toList = (0, 0, false) := by
  unfold parseS
  split
  · rename_i hp
    have hl : (s.data.toList.drop 9).length = s.size - 9 := by rw [List.length_drop, ← Lib.size_eq]
    have hge : 9 ≤ s.size := by
      have := List.IsPrefix.length_le (List.isPrefixOf_iff_prefix.1 hp)
      rw [← Lib.size_eq] at this
      exact this
    unfold restOf
    split
    · rename_i e; rw [e] at hl; simp at hl; omega
    · rename_i e; rw [e] at hl; simp at hl; omega
    · rfl
  · rfl

set_option maxHeartbeats 2000000 in
theorem refparse_any (s : ByteArray) (w : World) (hs : s.size ≤ maxLen) :
    Calls Try.prog 31 #[.string s] w fun e w' => e = .returned (sigV (parseS s.data.toList)) ∧ Below w.heap.size w w' := by
  have hraw : (decide (9 ≤ s.size) && ((s.extract 0 9).toList == [115, 110, 97, 112, 115, 104, 111, 116, 32])) = Lib.hasPrefix s.data.toList wordL := by
    have h := Lib.hasPrefix_raw s ⟨#[115, 110, 97, 112, 115, 104, 111, 116, 32]⟩
    rw [Lib.toList_data ⟨#[115, 110, 97, 112, 115, 104, 111, 116, 32]⟩] at h
    exact h
  by_cases h10 : s.size = 10
  · rw [decide_eq_true (show 9 ≤ s.size by omega), Bool.true_and] at hraw
    have hi : (s.size : Int) = 10 := by omega
    cases hb : Lib.hasPrefix s.data.toList wordL
    · have HP := Lib.hid (show parseS s.data.toList = (0, 0, false) by unfold parseS; rw [hb]; rfl)
      rw [hb] at hraw
      clear hb
      go_enter Try.func31, Try.ntmps31
      go_wp2
      go_returns
      refine ⟨by rw [HP.out]; rfl, ?_⟩
      repeat first | exact Below.refl _ _ | refine Below.alloc ?_ (by simp) _ | refine Below.setCell ?_ (by simp) _ | refine below_drewN ?_ _
    · have hP : parseS s.data.toList = restOf (s.data.toList.drop 9) := by unfold parseS; rw [hb]; rfl
      rw [rest10 s h10] at hP
      obtain ⟨x, hx⟩ : ∃ x, s[9]'(by omega) = x := ⟨_, rfl⟩
      rw [hx] at hP
      have hxl := x.toNat_lt
      rw [hb] at hraw
      clear hb
      have hP' : parseS s.data.toList = if 48 ≤ x.toNat ∧ x.toNat ≤ 55 then ((x.toNat : Int) - 48, (1 : Int), true) else ((0 : Int), (0 : Int), false) := hP
      have hc : (x.toNat : Int) < 48 ∨ (48 ≤ (x.toNat : Int) ∧ 55 < (x.toNat : Int)) ∨ (48 ≤ (x.toNat : Int) ∧ (x.toNat : Int) ≤ 55) := by omega
      rcases hc with hc | ⟨hc, hd⟩ | ⟨hc, hd⟩
      all_goals
        first | rw [if_neg (by omega)] at hP' | rw [if_pos (by omega)] at hP'
        have HP := Lib.hid hP'
        clear hP hP'
        go_enter Try.func31, Try.ntmps31
        go_wp2
        go_returns
        refine ⟨by rw [HP.out]; rfl, ?_⟩
        repeat first | exact Below.refl _ _ | refine Below.alloc ?_ (by simp) _ | refine Below.setCell ?_ (by simp) _ | refine below_drewN ?_ _
  · by_cases h12 : s.size = 12
    · rw [decide_eq_true (show 9 ≤ s.size by omega), Bool.true_and] at hraw
      have hi : (s.size : Int) = 12 := by omega
      cases hb : Lib.hasPrefix s.data.toList wordL
      · have HP := Lib.hid (show parseS s.data.toList = (0, 0, false) by unfold parseS; rw [hb]; rfl)
        rw [hb] at hraw
        clear hb
        go_enter Try.func31, Try.ntmps31
        go_wp2
        go_returns
        refine ⟨by rw [HP.out]; rfl, ?_⟩
        repeat first | exact Below.refl _ _ | refine Below.alloc ?_ (by simp) _ | refine Below.setCell ?_ (by simp) _ | refine below_drewN ?_ _
      · have hP : parseS s.data.toList = restOf (s.data.toList.drop 9) := by unfold parseS; rw [hb]; rfl
        rw [rest12 s h12] at hP
        obtain ⟨x, hx⟩ : ∃ x, s[9]'(by omega) = x := ⟨_, rfl⟩
        obtain ⟨a, ha⟩ : ∃ a, s[10]'(by omega) = a := ⟨_, rfl⟩
        obtain ⟨y, hy⟩ : ∃ y, s[11]'(by omega) = y := ⟨_, rfl⟩
        rw [hx, ha, hy] at hP
        have hxl := x.toNat_lt
        have hyl := y.toNat_lt
        rw [hb] at hraw
        clear hb
        have hP' : parseS s.data.toList = if 48 ≤ x.toNat ∧ x.toNat ≤ 55 ∧ a = 32 ∧ 49 ≤ y.toNat ∧ y.toNat ≤ 56 then ((x.toNat : Int) - 48, (y.toNat : Int) - 48, true) else ((0 : Int), (0 : Int), false) := hP
        clear hP
        have ha32 : a = 32 ∨ (¬ a = 32 ∧ ((a.toNat : Int) < 32 ∨ 32 < (a.toNat : Int))) := by
          by_cases h : a = 32
          · exact .inl h
          · refine .inr ⟨h, ?_⟩
            have : ¬ a.toNat = 32 := fun e => h (UInt8.toNat_inj.1 e)
            omega
        have hc : (x.toNat : Int) < 48 ∨ (48 ≤ (x.toNat : Int) ∧ 55 < (x.toNat : Int)) ∨ (48 ≤ (x.toNat : Int) ∧ (x.toNat : Int) ≤ 55) := by omega
        have he : (y.toNat : Int) < 49 ∨ (49 ≤ (y.toNat : Int) ∧ 56 < (y.toNat : Int)) ∨ (49 ≤ (y.toNat : Int) ∧ (y.toNat : Int) ≤ 56) := by omega
        rcases hc with hc | ⟨hc, hd⟩ | ⟨hc, hd⟩
        · rw [if_neg (by omega)] at hP'
          have HP := Lib.hid hP'
          clear hP'
          go_enter Try.func31, Try.ntmps31
          go_wp2
          go_returns
          refine ⟨by rw [HP.out]; rfl, ?_⟩
          repeat first | exact Below.refl _ _ | refine Below.alloc ?_ (by simp) _ | refine Below.setCell ?_ (by simp) _ | refine below_drewN ?_ _
        · rw [if_neg (by omega)] at hP'
          have HP := Lib.hid hP'
          clear hP'
          go_enter Try.func31, Try.ntmps31
          go_wp2
          go_returns
          refine ⟨by rw [HP.out]; rfl, ?_⟩
          repeat first | exact Below.refl _ _ | refine Below.alloc ?_ (by simp) _ | refine Below.setCell ?_ (by simp) _ | refine below_drewN ?_ _
        · rcases ha32 with rfl | ⟨ha1, ha2⟩
          · rcases he with he | ⟨he, hf⟩ | ⟨he, hf⟩
            all_goals
              first | rw [if_neg (by omega)] at hP' | rw [if_pos ⟨by omega, by omega, rfl, by omega, by omega⟩] at hP'
              have HP := Lib.hid hP'
              clear hP'
              go_enter Try.func31, Try.ntmps31
              go_wp2
              go_returns
              refine ⟨by rw [HP.out]; rfl, ?_⟩
              repeat first | exact Below.refl _ _ | refine Below.alloc ?_ (by simp) _ | refine Below.setCell ?_ (by simp) _ | refine below_drewN ?_ _
          · rw [if_neg (fun h => ha1 h.2.2.1)] at hP'
            have HP := Lib.hid hP'
            have hb1 : ((a.toNat : Int) == 32) = false := by simp; omega
            have hb2 : ((a.toNat : Int) != 32) = true := by simp; omega
            have hb3 : ¬ (a.toNat : Int) = 32 := by omega
            have hb4 : ¬ a.toNat = 32 := by omega
            clear hP' ha2
            go_enter Try.func31, Try.ntmps31
            go_wp2
            go_returns
            refine ⟨by rw [HP.out]; rfl, ?_⟩
            repeat first | exact Below.refl _ _ | refine Below.alloc ?_ (by simp) _ | refine Below.setCell ?_ (by simp) _ | refine below_drewN ?_ _
    · have HP := Lib.hid (parseS_len s h10 h12)
      have hi1 : ((s.size : Int) == 10) = false := by simp; omega
      have hi2 : ((s.size : Int) == 12) = false := by simp; omega
      clear hraw
      go_enter Try.func31, Try.ntmps31
      go_wp2
      go_returns
      refine ⟨by rw [HP.out]; rfl, ?_⟩
      repeat first | exact Below.refl _ _ | refine Below.alloc ?_ (by simp) _ | refine Below.setCell ?_ (by simp) _ | refine below_drewN ?_ _
end Go.Proofs.Ythhpddiicnjmmaa
