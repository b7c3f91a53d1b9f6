/- Contracts of play.Mod and play.Big. -/
import Derived.Test.YthhpddiicnjmmaaPlain
import Derived.Test.YthhpddiicnjmmaaModL
namespace Go.Proofs.Ythhpddiicnjmmaa
open Go.RowKit

set_option maxHeartbeats 400000 in
theorem mod_any (v n : Int) (w : World) (hn : 0 < n) (hn2 : n ≤ 9223372036854775807) :
    Calls Try.prog 19 #[.int .i64 v, .int .i64 n] w fun e w' => e = .returned (.int .i64 (modOf v n)) ∧ w = w' := by
  have hr := modOf_range v n hn
  have h1 : n % 18446744073709551616 = n := Int.emod_eq_of_lt (by omega) (by omega)
  go_enter Try.func19, Try.ntmps19
  go_wp2
  go_ret
  exact ⟨ret_int (mod_wraps v n hn hn2), rfl⟩

set_option maxHeartbeats 400000 in
theorem big_any (v n : Int) (w : World) (hn : 0 < n) (hn2 : n ≤ 9223372036854775807) :
    Calls Try.prog 17 #[.int .i64 v, .int .i64 n] w fun e w' => e = .returned (.int .i64 (modOf v n)) ∧ w = w' := by
  have hr := modOf_range v n hn
  have h1 : n % 18446744073709551616 = n := Int.emod_eq_of_lt (by omega) (by omega)
  go_enter Try.func17, Try.ntmps17
  go_wp2
  go_ret
  exact ⟨ret_int (mod_wraps v n hn hn2), rfl⟩

end Go.Proofs.Ythhpddiicnjmmaa
