/- Contracts: signal.Parse, the reference's Parse. -/
import Derived.Test.YtojjeogpggielaaSig1
set_option linter.unusedVariables false
namespace Go.Proofs.Ytojjeogpggielaa
open Go.RowKit

/-- The word that begins a signal. -/
def wordL : List UInt8 := [115, 110, 97, 112, 115, 104, 111, 116, 32]

/-- What is behind the word: a table's digit, perhaps a blank and a weight's. -/
def restOf (r : List UInt8) : Int × Int × Bool :=
  match r with
  | [x] => if 48 ≤ x.toNat ∧ x.toNat ≤ 55 then ((x.toNat : Int) - 48, 1, true) else (0, 0, false)
  | [x, a, y] => if 48 ≤ x.toNat ∧ x.toNat ≤ 55 ∧ a = 32 ∧ 49 ≤ y.toNat ∧ y.toNat ≤ 56 then ((x.toNat : Int) - 48, (y.toNat : Int) - 48, true) else (0, 0, false)
  | _ => (0, 0, false)

/-- What a signal asks for. -/
def parseS (l : List UInt8) : Int × Int × Bool := if Lib.hasPrefix l wordL then restOf (l.drop 9) else (0, 0, false)

/-- A digit ahead of the first blank, and one behind it. -/
def tab (s : ByteArray) : Int := digitOf (cut1 s 32).data.toList 48 55
def wgt (s : ByteArray) : Int := if 0 ≤ Lib.indexByte s.data.toList 32 then digitOf (cut2 s 32).data.toList 49 56 else 1

theorem restA (a t : List UInt8) (ha : (32 : UInt8) ∉ a) : restOf (a ++ 32 :: t) = if digitOf a 48 55 < 0 ∨ digitOf t 49 56 < 0 then (0, 0, false) else (digitOf a 48 55, digitOf t 49 56, true) := by
  match a, t with
  | [], [] => simp [restOf, digitOf]
  | [], [_] => simp [restOf, digitOf]
  | [], [_, _] => simp [restOf, digitOf]
  | [], _ :: _ :: _ :: _ => simp [restOf, digitOf]
  | [x], [] => simp [restOf, digitOf]
  | [x], [y] =>
    have hx := x.toNat_lt
    have hy := y.toNat_lt
    show (if 48 ≤ x.toNat ∧ x.toNat ≤ 55 ∧ (32 : UInt8) = 32 ∧ 49 ≤ y.toNat ∧ y.toNat ≤ 56 then ((x.toNat : Int) - 48, (y.toNat : Int) - 48, true) else ((0 : Int), (0 : Int), false)) = _
    by_cases h1 : (x.toNat : Int) < 48 ∨ 55 < (x.toNat : Int)
    · have d1 : digitOf [x] 48 55 = -1 := if_pos h1
      rw [d1, if_neg (by omega), if_pos (by omega)]
    · have d1 : digitOf [x] 48 55 = (x.toNat : Int) - 48 := if_neg h1
      by_cases h2 : (y.toNat : Int) < 49 ∨ 56 < (y.toNat : Int)
      · have d2 : digitOf [y] 49 56 = -1 := if_pos h2
        rw [d2, if_neg (by omega), if_pos (by omega)]
      · have d2 : digitOf [y] 49 56 = (y.toNat : Int) - 48 := if_neg h2
        rw [d1, d2, if_pos ⟨by omega, by omega, rfl, by omega, by omega⟩, if_neg (by omega)]
  | [x], _ :: _ :: _ => simp [restOf, digitOf]
  | [x, y], [] =>
    have hy : ¬ y = 32 := fun e => ha (by simp [e])
    simp [restOf, digitOf, hy]
  | [x, y], _ :: _ => simp [restOf, digitOf]
  | [x, y, z], t => simp [restOf, digitOf]
  | x :: y :: z :: q :: a', t => simp [restOf, digitOf]

theorem restB (a : List UInt8) (ha : (32 : UInt8) ∉ a) : restOf a = if digitOf a 48 55 < 0 then (0, 0, false) else (digitOf a 48 55, 1, true) := by
  match a with
  | [] => simp [restOf, digitOf]
  | [x] =>
    have hx := x.toNat_lt
    show (if 48 ≤ x.toNat ∧ x.toNat ≤ 55 then ((x.toNat : Int) - 48, (1 : Int), true) else ((0 : Int), (0 : Int), false)) = _
    by_cases h1 : (x.toNat : Int) < 48 ∨ 55 < (x.toNat : Int)
    · have d1 : digitOf [x] 48 55 = -1 := if_pos h1
      rw [d1, if_neg (by omega), if_pos (by omega)]
    · have d1 : digitOf [x] 48 55 = (x.toNat : Int) - 48 := if_neg h1
      rw [d1, if_pos (by omega), if_neg (by omega)]
  | [x, y] => simp [restOf, digitOf]
  | [x, y, z] =>
    have hy : ¬ y = 32 := fun e => ha (by simp [e])
    simp [restOf, digitOf, hy]
  | x :: y :: z :: q :: a' => simp [restOf, digitOf]

theorem indexByte_take : ∀ (l : List UInt8) (c : UInt8) (k : Nat), Lib.indexByte l c = (k : Int) → ∃ t, l = l.take k ++ c :: t ∧ l.drop (k + 1) = t ∧ c ∉ l.take k
  | [], c, k, h => by simp [Lib.indexByte] at h
  | b :: l, c, k, h => by
    rw [Lib.indexByte] at h
    split at h
    · rename_i e
      have e := eq_of_beq e
      obtain rfl : k = 0 := by omega
      subst e
      exact ⟨l, by simp, by simp, by simp⟩
    · rename_i hb
      split at h
      · omega
      · obtain ⟨j, rfl⟩ : ∃ j, k = j + 1 := ⟨k - 1, by
          have := Lib.indexByte_ge l c
          rename_i h2
          have h2 : ¬ Lib.indexByte l c = -1 := by simpa using h2
          omega⟩
        obtain ⟨t, h1, h2, h3⟩ := indexByte_take l c j (by omega)
        refine ⟨t, ?_, by simpa using h2, ?_⟩
        · simp only [List.take_succ_cons, List.cons_append]; rw [← h1]
        · simp only [List.take_succ_cons, List.mem_cons, not_or]
          exact ⟨fun e => hb (by simp [e]), h3⟩

theorem indexByte_none : ∀ (l : List UInt8) (c : UInt8), Lib.indexByte l c < 0 → c ∉ l
  | [], c, h => by simp
  | b :: l, c, h => by
    have ih := indexByte_none l c
    have hge := Lib.indexByte_ge l c
    rw [Lib.indexByte] at h
    split at h
    · omega
    · rename_i hb
      split at h
      · rename_i h2
        have h2 : Lib.indexByte l c = -1 := by simpa using h2
        simp only [List.mem_cons, not_or]
        exact ⟨fun e => hb (by simp [e]), ih (by omega)⟩
      · rename_i h2
        have h2 : ¬ Lib.indexByte l c = -1 := by simpa using h2
        omega

/-- The program's way to the rest is the document's. -/
theorem rest_eq (s : ByteArray) : restOf s.data.toList = if tab s < 0 ∨ wgt s < 0 then (0, 0, false) else (tab s, wgt s, true) := by
  by_cases h0 : 0 ≤ Lib.indexByte s.data.toList 32
  · obtain ⟨k, hk⟩ := Int.eq_ofNat_of_zero_le h0
    obtain ⟨t, h1, h2, h3⟩ := indexByte_take _ 32 k hk
    have e1 : tab s = digitOf (s.data.toList.take k) 48 55 := by
      unfold tab cut1
      rw [if_pos h0, hk, Lib.extract_eq]
      simp
    have e2 : wgt s = digitOf t 49 56 := by
      unfold wgt cut2
      rw [if_pos h0, if_pos h0, hk, Lib.extract_eq]
      show digitOf ((s.data.toList.drop (k + 1)).take (s.size - (k + 1))) 49 56 = _
      rw [h2, List.take_of_length_le (by rw [← h2, List.length_drop, Lib.size_eq]; exact Nat.le_refl _)]
    rw [e1, e2]
    conv => lhs; rw [h1]
    exact restA _ t h3
  · have e1 : tab s = digitOf s.data.toList 48 55 := by unfold tab cut1; rw [if_neg h0]
    have e2 : wgt s = 1 := by unfold wgt; rw [if_neg h0]
    rw [e1, e2, restB _ (indexByte_none _ _ (by omega))]
    by_cases h : digitOf s.data.toList 48 55 < 0
    · rw [if_pos h, if_pos (.inl h)]
    · rw [if_neg h, if_neg (by omega)]
end Go.Proofs.Ytojjeogpggielaa
