/- Contracts of the cursor's functions. -/
import Derived.Test.YthhpddiicnjmmaaPlay
import Derived.Test.YthhpddiicnjmmaaTypesM
import Derived.Deep.QuietTactic
import Derived.BigQuiet
namespace Go.Proofs.Ythhpddiicnjmmaa
open Go.RowKit

/-- How far a chunk came. -/
def lastKey (l : List Row) (a : Int) : Int := ((l.getLast?).map Row.key).getD a

theorem lastKey_nil (a : Int) : lastKey [] a = a := rfl
theorem lastKey_at {l : List Row} (a : Int) {k : Nat} {x : Row} (h : k + 1 = l.length) (hx : l[k]? = some x) : lastKey l a = x.key := by
  unfold lastKey
  rw [List.getLast?_eq_getElem?, show l.length - 1 = k by omega, hx]
  rfl

/-- How many chunks there are. -/
def leftOf (m n : Int) : Int := if m < 0 ∨ n < 1 then 0 else min m 1099511627776 / n + 1

set_option maxHeartbeats 400000 in
theorem plan_any (A : Option Addr) (n c : Nat) (l : List Row) (after k : Int) (w : World) (S : Nat → Prop) (h : IsSl rowRep w S A n l) (hm : n ≤ maxLen) :
    Calls Try.prog 140 #[.int .i64 after, .int .i64 k, .slice A n c] w fun e w' => e = .returned (.tuple #[.int .i64 (lastKey l after), .bool (decide ((n : Int) < k))]) ∧ w = w' := by
  unfold maxLen at hm
  by_cases h0 : 0 < n
  · obtain ⟨b, off, x, cs, rfl, _, hx, ⟨rfl, _⟩, hc⟩ := h.at_ (k := n - 1) (by omega)
    have hc0 := hc 0 _ rfl
    have hl := lastKey_at after (by rw [← h.len]; omega) hx
    have hcell : w.cell? ⟨b, off + (n - 1) * 2, none⟩ = some (.int .i64 (lastKey l after)) := by rw [hl]; exact hc0
    have h1 : (0 : Int) < (n : Int) := by omega
    clear hl hc0 hc hx h
    go_enter Try.func140, Try.ntmps140
    go_wp2
    go_ret2
    exact ⟨rfl, rfl⟩
  · obtain rfl : n = 0 := by omega
    have : l = [] := List.eq_nil_of_length_eq_zero (by rw [← h.len])
    subst this
    go_enter Try.func140, Try.ntmps140
    go_wp2
    go_ret2
    exact ⟨rfl, rfl⟩

end Go.Proofs.Ythhpddiicnjmmaa
