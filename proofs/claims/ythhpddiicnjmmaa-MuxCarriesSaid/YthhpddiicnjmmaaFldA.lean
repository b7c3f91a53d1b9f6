/- Contracts of what the statements of layer 2 call: qanathelp.Bytes, play.Cut, awake. -/
import Derived.Test.YthhpddiicnjmmaaFld7
import Derived.Test.YthhpddiicnjmmaaPlay
namespace Go.Proofs.Ythhpddiicnjmmaa
open Go.RowKit

set_option maxRecDepth 100000 in
set_option maxHeartbeats 1000000 in
theorem bytes_any (A A2 : Option Addr) (n c n2 c2 : Nat) (l : List UInt8) (w : World) (S S2 : Nat → Prop) (h : IsSl byteRep w S A n l) (h2 : IsSl byteRep w S2 A2 n2 l) :
    Calls Try.prog 15 #[.slice A n c, .slice A2 n2 c2] w fun e w' => e = .returned (.bool true) ∧ w = w' := by
  have hcv := run_str_of (P := Try.prog) (c := c) 25 9 5 Try.underlying25 Try.underlying5 Try.underlying9 h
  have hcv2 := run_str_of (P := Try.prog) (c := c2) 25 9 5 Try.underlying25 Try.underlying5 Try.underlying9 h2
  clear h h2
  go_enter Try.func15, Try.ntmps15
  go_wp2
  go_ret
  exact ⟨by simp, rfl⟩


set_option maxRecDepth 100000 in
set_option maxHeartbeats 1000000 in
theorem cut_any (s : ByteArray) (n : Nat) (ni : Int) (hni : ni = (n : Int)) (w : World) (_ : s.size ≤ maxLen) : Calls Try.prog 59 #[.string s, .int .i64 ni] w fun e w' => e = .returned (.string (s.extract 0 (min s.size n))) ∧ w = w' := by
  subst hni
  by_cases h : n < s.size
  · have HM := Lib.hid (show min s.size n = n by omega)
    go_enter Try.func59, Try.ntmps59
    go_wp2
    go_ret
    rw [HM.out]
    exact ⟨rfl, rfl⟩
  · have HM := Lib.hid (show min s.size n = s.size by omega)
    have HX := Lib.hid (show s.extract 0 s.size = s by simp)
    go_enter Try.func59, Try.ntmps59
    go_wp2
    go_ret
    rw [HM.out, HX.out]
    exact ⟨rfl, rfl⟩
end Go.Proofs.Ythhpddiicnjmmaa
