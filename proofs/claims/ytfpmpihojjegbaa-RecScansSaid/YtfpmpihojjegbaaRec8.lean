/- awake of layer 3. -/
import Derived.Test.YtfpmpihojjegbaaRec7
import Derived.Test.YtfpmpihojjegbaaFldA
namespace Go.Proofs.Ytfpmpihojjegbaa
open Go.RowKit

theorem put_none : putE [] = 0 ∧ putV [] = [0, 0, 0, 0, 33, 68, 223, 28] := by
  refine ⟨by decide +kernel, by decide +kernel⟩
theorem take_none : takeE [0, 0, 0, 0, 33, 68, 223, 28] = 0 ∧ takeK [0, 0, 0, 0, 33, 68, 223, 28] = 8 ∧ takeV [0, 0, 0, 0, 33, 68, 223, 28] = [] := by
  refine ⟨by decide +kernel, by decide +kernel, by decide +kernel⟩

set_option maxHeartbeats 1000000 in
theorem awake03_any (w : World) : Calls Try.prog 30 #[] w fun e w' => e = .returned (.bool true) ∧ Below w.heap.size w w' := by
  have hm0 : (0 : Nat) ≤ maxLen := Nat.zero_le _
  have L8 := Lib.hid (show ([0, 0, 0, 0, 33, 68, 223, 28] : List UInt8).length = 8 from rfl)
  have L0 := Lib.hid (show ([] : List UInt8).length = 0 from rfl)
  go_enter Try.func30, Try.ntmps30
  go_wp2_with (first
    | (go_at_call 28; (with_reducible refine (put_any none 0 0 [] _ IsSl.nil (Nat.le_refl _) hm0).mono ?_); rintro e w2 ⟨v2, rfl, own2, bel2⟩; rw [put_none.1]; rw [put_none.2] at own2; obtain ⟨A2, c2, rfl, hc21, hc22, sl2⟩ := own2.isSlB; rw [L8.out] at hc21 sl2 ⊢; have SL2 := Lib.hid sl2; have hc21' : 8 ≤ c2 := hc21; have hs2 := bel2.size; have BEL2 := Lib.hid bel2; clear own2 sl2 bel2)
    | (go_at_call 32; (refine (take_any A2 8 c2 [0, 0, 0, 0, 33, 68, 223, 28] _ SL2.out hc21' hc22).mono ?_); rintro e w4 ⟨v4, rfl, own4, bel4⟩; rw [take_none.1, take_none.2.1]; rw [take_none.2.2] at own4; obtain ⟨A4, c4, rfl, hc41, hc42, sl4⟩ := own4.isSlB; rw [L0.out] at hc41 sl4 ⊢; have SL24 := (SL2.out.below bel4).more bel4.size; have hcv := run_str_of (P := Try.prog) (c := c2) 27 9 5 Try.underlying27 Try.underlying5 Try.underlying9 SL24; clear SL24; have BW4 := Lib.hid (BEL2.out.trans (bel4.mono hs2)); clear own4 sl4 bel4)
    | fail)
  go_ret
  exact ⟨rfl, BW4.out⟩
end Go.Proofs.Ytfpmpihojjegbaa
