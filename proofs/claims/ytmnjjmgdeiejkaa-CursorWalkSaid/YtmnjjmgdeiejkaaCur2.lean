/- The reference's cursor, awake, and the walks of the laws CursorPlans and CursorLefts. -/
import Derived.Test.YtmnjjmgdeiejkaaCur
namespace Go.Proofs.Ytmnjjmgdeiejkaa
open Go.RowKit

set_option maxHeartbeats 400000 in
theorem refplan_any (A : Option Addr) (n c : Nat) (l : List Row) (after k : Int) (w : World) (S : Nat → Prop) (h : IsSl rowRep w S A n l) (hm : n ≤ maxLen) :
    Calls Try.prog 15 #[.int .i64 after, .int .i64 k, .slice A n c] w fun e w' => e = .returned (.tuple #[.int .i64 (lastKey l after), .bool (decide ((n : Int) < k))]) ∧ w = w' := by
  unfold maxLen at hm
  by_cases h0 : 0 < n
  · obtain ⟨b, off, x, cs, rfl, _, hx, ⟨rfl, _⟩, hc⟩ := h.at_ (k := n - 1) (by omega)
    have hc0 := hc 0 _ rfl
    have hl := lastKey_at after (by rw [← h.len]; omega) hx
    have hcell : w.cell? ⟨b, off + (n - 1) * 2, none⟩ = some (.int .i64 (lastKey l after)) := by rw [hl]; exact hc0
    have h1 : (0 : Int) < (n : Int) := by omega
    clear hl hc0 hc hx h
    go_enter Try.func15, Try.ntmps15
    go_wp2
    go_ret2
    exact ⟨rfl, rfl⟩
  · obtain rfl : n = 0 := by omega
    have : l = [] := List.eq_nil_of_length_eq_zero (by rw [← h.len])
    subst this
    go_enter Try.func15, Try.ntmps15
    go_wp2
    go_ret2
    exact ⟨rfl, rfl⟩

set_option maxHeartbeats 400000 in
theorem refleft_any (m n : Int) (w : World) (hm : m ≤ 9223372036854775807) :
    Calls Try.prog 18 #[.int .i64 m, .int .i64 n] w fun e w' => e = .returned (.int .i64 (leftOf m n)) ∧ w = w' := by
  by_cases h0 : m < 0
  · have hl : leftOf m n = 0 := by unfold leftOf; rw [if_pos (.inl h0)]
    rw [hl]
    clear hl
    go_enter Try.func18, Try.ntmps18
    go_wp2
    go_ret
    exact ⟨rfl, rfl⟩
  · by_cases h1 : n < 1
    · have hl : leftOf m n = 0 := by unfold leftOf; rw [if_pos (.inr h1)]
      rw [hl]
      clear hl
      go_enter Try.func18, Try.ntmps18
      go_wp2
      go_ret
      exact ⟨rfl, rfl⟩
    · have hl : leftOf m n = min m 1099511627776 / n + 1 := by unfold leftOf; rw [if_neg (by omega)]
      rw [hl]
      clear hl
      have h2 : 0 ≤ m := by omega
      have h3 : 1 ≤ n := by omega
      have h4 : 0 ≤ min m 1099511627776 / n := Int.ediv_nonneg (by omega) (by omega)
      have h5 : min m 1099511627776 / n ≤ 1099511627776 := Int.le_trans (Int.ediv_le_self _ (by omega)) (by omega)
      clear h0 h1
      by_cases h6 : m ≤ 1099511627776
      · have h7 : min m 1099511627776 = m := by omega
        rw [h7] at h4 h5 ⊢
        clear h7
        go_enter Try.func18, Try.ntmps18
        go_wp2
        go_ret
        exact ⟨rfl, rfl⟩
      · have h7 : min m 1099511627776 = 1099511627776 := by omega
        rw [h7] at h4 h5 ⊢
        clear h7
        go_enter Try.func18, Try.ntmps18
        go_wp2
        go_ret
        exact ⟨rfl, rfl⟩

set_option maxHeartbeats 400000 in
theorem awake25_any (w : World) :
    Calls Try.prog 16 #[] w fun e w' => e = .returned (.bool true) ∧ Below w.heap.size w w' := by
  go_enter Try.func16, Try.ntmps16
  go_wp2
  go_ret
  exact ⟨rfl, ((Below.refl _ _).alloc (Nat.le_refl _) _).alloc (by simp) _⟩

set_option maxHeartbeats 1000000 in
theorem cursorPlans_walk (w : World) (after : Int) (_ : I64 after) (k : Int) (_ : I64 k) (A : Option Addr) (n c : Nat) (l : List Row) (h : IsSl rowRep w (· < w.heap.size) A n l) (hc : n ≤ c) (hm : c ≤ maxLen) (m : Int) (hm2 : I64 m) :
    Calls Try.prog 3 #[.int .i64 after, .int .i64 k, .slice A n c, .int .i64 m] w fun e w' => e = .returned (.bool true) ∧ Below w.heap.size w w' := by
  unfold I64 at hm2
  have hn : n ≤ maxLen := Nat.le_trans hc hm
  have hr := modOf_range m 100 (by omega)
  have hs := modOf_range k 9 (by omega)
  go_enter Try.func3, Try.ntmps3
  go_wp2_with (first
    | (go_at_call 14; refine (plan_any _ _ _ _ _ _ _ _ h hn).mono ?_; rintro e w' ⟨rfl, rfl⟩)
    | (go_at_call 15; refine (refplan_any _ _ _ _ _ _ _ _ h hn).mono ?_; rintro e w' ⟨rfl, rfl⟩)
    | (go_at_call 16; refine (awake25_any _).mono ?_; rintro e w1 ⟨rfl, hb⟩)
    | (go_at_call 19; refine (mod_any _ _ _ (by omega) (by omega)).mono ?_; rintro e w' ⟨rfl, rfl⟩)
    | (go_at_call 17; refine (left_any _ _ _ (by omega)).mono ?_; rintro e w' ⟨rfl, rfl⟩)
    | (go_at_call 18; refine (refleft_any _ _ _ (by omega)).mono ?_; rintro e w' ⟨rfl, rfl⟩))
  go_ret
  exact ⟨rfl, hb⟩

theorem leftOf_step (k j : Int) (hk : 0 ≤ k) (hk2 : k < 1073741824) (hj : 1 ≤ j) (hj2 : j ≤ 1048576) : leftOf (k + j) j = leftOf k j + 1 ∧ 1 ≤ leftOf k j ∧ (leftOf k j - 1) * j ≤ k ∧ k < leftOf k j * j ∧ leftOf k j ≤ 1073741825 := by
  have h1 : leftOf k j = k / j + 1 := by unfold leftOf; rw [if_neg (by omega), Int.min_eq_left (by omega)]
  have h2 : leftOf (k + j) j = (k + j) / j + 1 := by unfold leftOf; rw [if_neg (by omega), Int.min_eq_left (by omega)]
  rw [h1, h2]
  have h3 : (k + j) / j = k / j + 1 := by rw [Int.add_ediv_of_dvd_right (Int.dvd_refl j), Int.ediv_self (by omega)]
  have h4 : 0 ≤ k / j := Int.ediv_nonneg hk (by omega)
  have h5 : k / j * j ≤ k := Int.ediv_mul_le k (by omega)
  have h6 : k < (k / j + 1) * j := Int.lt_ediv_add_one_mul_self k (by omega)
  have h7 : k / j ≤ k := Int.ediv_le_self _ hk
  refine ⟨by omega, by omega, ?_, h6, by omega⟩
  rw [show k / j + 1 - 1 = k / j by omega]
  exact h5

set_option maxHeartbeats 1000000 in
theorem cursorLefts_walk (w : World) (m : Int) (_ : I64 m) (n : Int) (_ : I64 n) :
    Calls Try.prog 5 #[.int .i64 m, .int .i64 n] w fun e w' => e = .returned (.bool true) ∧ Below w.heap.size w w' := by
  have hr := modOf_range m 1073741824 (by omega)
  have hs := modOf_range n 1048576 (by omega)
  obtain ⟨g1, g2, g3, g4, g5⟩ := leftOf_step (modOf m 1073741824) (1 + modOf n 1048576) (by omega) (by omega) (by omega) (by omega)
  have g6 : leftOf 0 (1 + modOf n 1048576) = 1 := by unfold leftOf; rw [if_neg (by omega), Int.min_eq_left (by omega), Int.zero_ediv]; rfl
  have g7 : leftOf (-1 - modOf m 1073741824) (1 + modOf n 1048576) = 0 := by unfold leftOf; rw [if_pos (by omega)]
  have g8 : leftOf (modOf m 1073741824) 0 = 0 := by unfold leftOf; rw [if_pos (by omega)]
  have b1 : 0 ≤ (leftOf (modOf m 1073741824) (1 + modOf n 1048576) - 1) * (1 + modOf n 1048576) := Int.mul_nonneg (by omega) (by omega)
  have b2 : leftOf (modOf m 1073741824) (1 + modOf n 1048576) * (1 + modOf n 1048576) ≤ 1073741825 * (1 + modOf n 1048576) := Int.mul_le_mul_of_nonneg_right g5 (by omega)
  go_enter Try.func5, Try.ntmps5
  go_wp2_with (first
    | (go_at_call 16; refine (awake25_any _).mono ?_; rintro e w1 ⟨rfl, hb⟩)
    | (go_at_call 19; refine (mod_any _ _ _ (by omega) (by omega)).mono ?_; rintro e w' ⟨rfl, rfl⟩)
    | (go_at_call 17; refine (left_any _ _ _ (by omega)).mono ?_; rintro e w' ⟨rfl, rfl⟩))
  go_ret
  exact ⟨rfl, hb⟩

end Go.Proofs.Ytmnjjmgdeiejkaa
