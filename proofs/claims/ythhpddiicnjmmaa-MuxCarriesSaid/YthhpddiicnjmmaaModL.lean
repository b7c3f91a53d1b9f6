/- v % n as unsigned numbers, in the walk's spelling. No program. -/
import Derived.Test.YthhpddiicnjmmaaMem
import Derived.Lib.Hide
namespace Go.Proofs.Ythhpddiicnjmmaa
open Go.RowKit

/-- v % n as unsigned numbers. -/
def modOf (v n : Int) : Int := (v % 18446744073709551616) % n

theorem modOf_range (v n : Int) (h : 0 < n) : 0 ≤ modOf v n ∧ modOf v n < n := by
  unfold modOf
  exact ⟨Int.emod_nonneg _ (by omega), Int.emod_lt_of_pos _ h⟩

theorem ret_int {k : IntKind} {a b : Int} (h : a = b) : Ending.returned (.int k a) = .returned (.int k b) := by rw [h]

theorem mod_wraps (v n : Int) (hn : 0 < n) (hn2 : n ≤ 9223372036854775807) : wrap64 ((IntKind.u64.wrap v).tmod n) = modOf v n := by
  have h0 : IntKind.u64.wrap v = v % 18446744073709551616 := by rw [IntKind.wrap_u64]
  have h1 : 0 ≤ v % 18446744073709551616 := Int.emod_nonneg _ (by omega)
  rw [h0, Int.tmod_eq_emod_of_nonneg h1]
  have hr := modOf_range v n hn
  unfold modOf at hr ⊢
  exact IntWalk.wrap64_in _ ⟨by omega, by omega⟩

end Go.Proofs.Ythhpddiicnjmmaa
