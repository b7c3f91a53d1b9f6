/- The walk of RecPuts. -/
import Derived.Test.YtfpmpihojjegbaaHelpB2
import Derived.Test.YtfpmpihojjegbaaRecQ
namespace Go.Proofs.Ytfpmpihojjegbaa
open Go.RowKit

set_option linter.unusedVariables false in
set_option maxHeartbeats 2000000 in
theorem recPuts_walk (w : World) (A : Option Addr) (n c : Nat) (p : List UInt8) (h : IsSl byteRep w (· < w.heap.size) A n p) (h1 : n ≤ c) (h2 : c ≤ maxLen) (hz : c * 1 ≤ 140737488351232) :
    Calls Try.prog 8 #[.slice A n c] w fun e w' => e = .returned (.bool true) ∧ Below w.heap.size w w' := by
  have H := Lib.hid h
  have HL := Lib.hid h.len
  have hn : n ≤ 140737488351232 := by omega
  have hn3 : n + 3 ≤ maxLen := by unfold maxLen; omega
  clear h
  go_enter Try.func8, Try.ntmps8
  go_wp2_with (first
    | (go_at_call 27; (with_reducible refine (ownCopy_byte A n c p 7 7 rfl _ H.out (by omega)).mono ?_); rintro e w1 ⟨g, cap, rfl, own1, bel1⟩
       obtain ⟨A1, c1, hv, hc11, hc12, sl1⟩ := own1.isSlB
       injection hv with hA hnn hcc
       subst hA hcc
       rw [show (p ++ [(7 : UInt8), 7, 7]).length = n + 3 by rw [List.length_append, ← HL.out]; rfl] at sl1
       have slc := sl1.cutTo (hi := n) (by omega)
       rw [show (p ++ [(7 : UInt8), 7, 7]).take n = p by rw [HL.out, List.take_left]] at slc
       have SL1 := Lib.hid sl1
       have SLC := Lib.hid slc
       have BEL1 := Lib.hid bel1
       have hs1 := bel1.size
       clear own1 sl1 slc bel1 hnn hc11 hc12)
    | (go_at_call 28; (with_reducible refine (put_any (some ⟨g, 0, none⟩) n (n + 3) p _ SLC.out (by omega) hn3).mono ?_); rintro e w2 ⟨v2, rfl, own2, bel2⟩; obtain ⟨A2, c2, rfl, hc21, hc22, sl2⟩ := own2.isSlB; have SL2 := Lib.hid sl2; have BEL2 := Lib.hid (BEL1.out.trans (bel2.mono hs1)); have SL12 := Lib.hid ((SL1.out.below bel2).more bel2.size); have hs2 := BEL2.out.size; clear own2 sl2 bel2)
    | (go_at_call 29; (with_reducible refine (refput_any A n c p _ ((H.out.below BEL2.out).more hs2) h1 h2).mono ?_); rintro e w3 ⟨v3, rfl, own3, bel3⟩; obtain ⟨A3, c3, rfl, hc31, hc32, sl3⟩ := own3.isSlB; have SL3 := Lib.hid sl3; have BEL3 := Lib.hid (BEL2.out.trans (bel3.mono hs2)); have SL13 := Lib.hid ((SL12.out.below bel3).more bel3.size); have SL23 := Lib.hid ((SL2.out.below bel3).more bel3.size); have hs3 := BEL3.out.size; clear own3 sl3 bel3)
    | (go_at_call 30; (with_reducible refine (awake03_any _).mono ?_); rintro e w4 ⟨rfl, bel4⟩; have BEL4 := Lib.hid (BEL3.out.trans (bel4.mono hs3)); have SL14 := Lib.hid ((SL13.out.below bel4).more bel4.size); have SL24 := Lib.hid ((SL23.out.below bel4).more bel4.size); have SL34 := Lib.hid ((SL3.out.below bel4).more bel4.size); have hs4 := BEL4.out.size; clear bel4)
    | (go_at_call 18; (with_reducible refine (bytes_any A2 A3 _ c2 _ c3 (putV p) _ _ _ SL24.out SL34.out).mono ?_); rintro e w' ⟨rfl, rfl⟩)
    | (go_at_call 31; (with_reducible refine (kept_byte g n c A p 7 7 rfl _ SL14.out ((H.out.below BEL4.out).more hs4) (by omega)).mono ?_); rintro e w5 ⟨rfl, bel5⟩; have BEL5 := Lib.hid (BEL4.out.trans (bel5.mono hs4)); clear bel5)
    | fail)
  go_ret
  exact ⟨by simp, BEL5.out⟩
end Go.Proofs.Ytfpmpihojjegbaa
