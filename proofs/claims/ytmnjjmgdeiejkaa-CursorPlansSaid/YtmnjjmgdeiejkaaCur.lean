/- Contracts of the cursor's functions, the reference's, and of play.Mod and play.Big. -/
import Derived.Test.YtmnjjmgdeiejkaaTypesA
import Derived.Deep.QuietTactic
import Derived.BigQuiet
namespace Go.Proofs.Ytmnjjmgdeiejkaa
open Go.RowKit

/-- How far a chunk came. -/
def lastKey (l : List Row) (a : Int) : Int := ((l.getLast?).map Row.key).getD a

theorem lastKey_nil (a : Int) : lastKey [] a = a := rfl
theorem lastKey_at {l : List Row} (a : Int) {k : Nat} {x : Row} (h : k + 1 = l.length) (hx : l[k]? = some x) : lastKey l a = x.key := by
  unfold lastKey
  rw [List.getLast?_eq_getElem?, show l.length - 1 = k by omega, hx]
  rfl

/-- How many chunks there are. -/
def leftOf (m n : Int) : Int := if m < 0 ∨ n < 1 then 0 else min m 1099511627776 / n + 1

/-- v % n as unsigned numbers. -/
def modOf (v n : Int) : Int := (v % 18446744073709551616) % n

theorem modOf_range (v n : Int) (h : 0 < n) : 0 ≤ modOf v n ∧ modOf v n < n := by
  unfold modOf
  exact ⟨Int.emod_nonneg _ (by omega), Int.emod_lt_of_pos _ h⟩

theorem ret_int {k : IntKind} {a b : Int} (h : a = b) : Ending.returned (.int k a) = .returned (.int k b) := by rw [h]

theorem mod_wraps (v n : Int) (hn : 0 < n) (hn2 : n ≤ 9223372036854775807) : wrap64 ((IntKind.u64.wrap v).tmod n) = modOf v n := by
  have h0 : IntKind.u64.wrap v = v % 18446744073709551616 := by rw [IntKind.wrap_u64]
  have h1 : 0 ≤ v % 18446744073709551616 := Int.emod_nonneg _ (by omega)
  rw [h0, Int.tmod_eq_emod_of_nonneg h1]
  have hr := modOf_range v n hn
  unfold modOf at hr ⊢
  exact IntWalk.wrap64_in _ ⟨by omega, by omega⟩

set_option maxHeartbeats 400000 in
theorem plan_any (A : Option Addr) (n c : Nat) (l : List Row) (after k : Int) (w : World) (S : Nat → Prop) (h : IsSl rowRep w S A n l) (hm : n ≤ maxLen) :
    Calls Try.prog 14 #[.int .i64 after, .int .i64 k, .slice A n c] w fun e w' => e = .returned (.tuple #[.int .i64 (lastKey l after), .bool (decide ((n : Int) < k))]) ∧ w = w' := by
  unfold maxLen at hm
  by_cases h0 : 0 < n
  · obtain ⟨b, off, x, cs, rfl, _, hx, ⟨rfl, _⟩, hc⟩ := h.at_ (k := n - 1) (by omega)
    have hc0 := hc 0 _ rfl
    have hl := lastKey_at after (by rw [← h.len]; omega) hx
    have hcell : w.cell? ⟨b, off + (n - 1) * 2, none⟩ = some (.int .i64 (lastKey l after)) := by rw [hl]; exact hc0
    have h1 : (0 : Int) < (n : Int) := by omega
    clear hl hc0 hc hx h
    go_enter Try.func14, Try.ntmps14
    go_wp2
    go_ret2
    exact ⟨rfl, rfl⟩
  · obtain rfl : n = 0 := by omega
    have : l = [] := List.eq_nil_of_length_eq_zero (by rw [← h.len])
    subst this
    go_enter Try.func14, Try.ntmps14
    go_wp2
    go_ret2
    exact ⟨rfl, rfl⟩

set_option maxHeartbeats 400000 in
theorem left_any (m n : Int) (w : World) (hm : m ≤ 9223372036854775807) :
    Calls Try.prog 17 #[.int .i64 m, .int .i64 n] w fun e w' => e = .returned (.int .i64 (leftOf m n)) ∧ w = w' := by
  by_cases h0 : m < 0
  · have hl : leftOf m n = 0 := by unfold leftOf; rw [if_pos (.inl h0)]
    rw [hl]
    clear hl
    go_enter Try.func17, Try.ntmps17
    go_wp2
    go_ret
    exact ⟨rfl, rfl⟩
  · by_cases h1 : n < 1
    · have hl : leftOf m n = 0 := by unfold leftOf; rw [if_pos (.inr h1)]
      rw [hl]
      clear hl
      go_enter Try.func17, Try.ntmps17
      go_wp2
      go_ret
      exact ⟨rfl, rfl⟩
    · have hl : leftOf m n = min m 1099511627776 / n + 1 := by unfold leftOf; rw [if_neg (by omega)]
      rw [hl]
      clear hl
      have h2 : 0 ≤ m := by omega
      have h3 : 1 ≤ n := by omega
      have h4 : 0 ≤ min m 1099511627776 / n := Int.ediv_nonneg (by omega) (by omega)
      have h5 : min m 1099511627776 / n ≤ 1099511627776 := Int.le_trans (Int.ediv_le_self _ (by omega)) (by omega)
      clear h0 h1
      by_cases h6 : m ≤ 1099511627776
      · have h7 : min m 1099511627776 = m := by omega
        rw [h7] at h4 h5 ⊢
        clear h7
        go_enter Try.func17, Try.ntmps17
        go_wp2
        go_ret
        exact ⟨rfl, rfl⟩
      · have h7 : min m 1099511627776 = 1099511627776 := by omega
        rw [h7] at h4 h5 ⊢
        clear h7
        go_enter Try.func17, Try.ntmps17
        go_wp2
        go_ret
        exact ⟨rfl, rfl⟩

set_option maxHeartbeats 400000 in
theorem mod_any (v n : Int) (w : World) (hn : 0 < n) (hn2 : n ≤ 9223372036854775807) :
    Calls Try.prog 19 #[.int .i64 v, .int .i64 n] w fun e w' => e = .returned (.int .i64 (modOf v n)) ∧ w = w' := by
  have hr := modOf_range v n hn
  have h1 : n % 18446744073709551616 = n := Int.emod_eq_of_lt (by omega) (by omega)
  go_enter Try.func19, Try.ntmps19
  go_wp2
  go_ret
  exact ⟨ret_int (mod_wraps v n hn hn2), rfl⟩

set_option maxHeartbeats 400000 in
theorem big_any (v n : Int) (w : World) (hn : 0 < n) (hn2 : n ≤ 9223372036854775807) :
    Calls Try.prog 21 #[.int .i64 v, .int .i64 n] w fun e w' => e = .returned (.int .i64 (modOf v n)) ∧ w = w' := by
  have hr := modOf_range v n hn
  have h1 : n % 18446744073709551616 = n := Int.emod_eq_of_lt (by omega) (by omega)
  go_enter Try.func21, Try.ntmps21
  go_wp2
  go_ret
  exact ⟨ret_int (mod_wraps v n hn hn2), rfl⟩

end Go.Proofs.Ytmnjjmgdeiejkaa
