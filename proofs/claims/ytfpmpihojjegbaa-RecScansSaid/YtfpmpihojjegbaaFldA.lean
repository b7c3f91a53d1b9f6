/- Contracts of what the statements of layer 2 call: qanathelp.Bytes, play.Cut, awake. -/
import Derived.Test.YtfpmpihojjegbaaFld7
import Derived.Test.YtfpmpihojjegbaaPlay
namespace Go.Proofs.Ytfpmpihojjegbaa
open Go.RowKit

set_option maxHeartbeats 1000000 in
theorem bytes_any (A A2 : Option Addr) (n c n2 c2 : Nat) (l : List UInt8) (w : World) (S S2 : Nat → Prop) (h : IsSl byteRep w S A n l) (h2 : IsSl byteRep w S2 A2 n2 l) :
    Calls Try.prog 18 #[.slice A n c, .slice A2 n2 c2] w fun e w' => e = .returned (.bool true) ∧ w = w' := by
  have hcv := run_str_of (P := Try.prog) (c := c) 27 9 5 Try.underlying27 Try.underlying5 Try.underlying9 h
  have hcv2 := run_str_of (P := Try.prog) (c := c2) 27 9 5 Try.underlying27 Try.underlying5 Try.underlying9 h2
  clear h h2
  go_enter Try.func18, Try.ntmps18
  go_wp2
  go_ret
  exact ⟨by simp, rfl⟩

set_option maxHeartbeats 1000000 in
theorem awake02_any (w : World) : Calls Try.prog 14 #[] w fun e w' => e = .returned (.bool true) ∧ Below w.heap.size w w' := by
  have hb0 : Below w.heap.size w (w.alloc (.cells #[.int .i64 1, .int .i64 5, .string ⟨#[]⟩] 26)) := (Below.refl _ _).alloc (Nat.le_refl _) _
  go_enter Try.func14, Try.ntmps14
  go_wp2_with (first
    | (go_at_call 16; (refine (encode_any _ 1 1 [⟨1, 5, ⟨#[]⟩⟩] _ (IsSl.new1 (R := fldRep) ⟨rfl, by unfold I64; dsimp only; omega, by unfold I64; dsimp only; omega, by show 0 ≤ _; omega⟩ (by simp)) (by omega)).mono ?_); rintro e w2 ⟨v2, rfl, own2, bel2⟩; rw [show encE [⟨1, 5, ⟨#[]⟩⟩] = 0 from by decide +kernel]; rw [show encV [⟨1, 5, ⟨#[]⟩⟩] = [0, 1, 1, 0, 0, 0, 0, 0, 0, 0, 5] from by decide +kernel] at own2; obtain ⟨A2, c2, rfl, h21, h22, sl2⟩ := own2.isSl (S' := (· < w2.heap.size)) (fun _ h => h.elim) (fun _ _ h => h); have SL2 : Hid (IsSl byteRep w2 (· < w2.heap.size) A2 11 [0, 1, 1, 0, 0, 0, 0, 0, 0, 0, 5]) := Lib.hid sl2; have bw2 := hb0.trans (bel2.mono (by simp)); have hs2 := bw2.size; clear own2 sl2 bel2)
    | (go_at_call 20; (refine (decode_any _ 6 6 [0, 1, 2, 0, 1, 120] _ (IsSl.newBytes _ rfl rfl (by simp)) (by omega) (by unfold maxLen; omega)).mono ?_); rintro e w4 ⟨v4, rfl, own4, bel4⟩; rw [show decE [0, 1, 2, 0, 1, 120] = 0 from by decide +kernel]; rw [show decV [0, 1, 2, 0, 1, 120] = [⟨2, 0, ⟨#[120]⟩⟩] from by kernel_rfl] at own4; obtain ⟨g, cap, rfl, hgB, hgl, hcp1, hcp2⟩ := own4.form1 (by simp); obtain ⟨_, _, ⟨rfl, _⟩, hu0, d0, _⟩ := own4.cellAt (k := 0) (j := 0) rfl (by decide); obtain ⟨_, _, ⟨rfl, _⟩, hu1, d1, _⟩ := own4.cellAt (k := 0) (j := 1) rfl (by decide); obtain ⟨_, _, ⟨rfl, _⟩, hu2, d2, _⟩ := own4.cellAt (k := 0) (j := 2) rfl (by decide); have e0 : w4.cell? ⟨g, 0, none⟩ = some (.int .i64 2) := d0.trans hu0.symm; have e1 : w4.cell? ⟨g, 1, none⟩ = some (.int .i64 0) := d1.trans hu1.symm; have e2 : w4.cell? ⟨g, 2, none⟩ = some (.string ⟨#[120]⟩) := d2.trans hu2.symm; clear hu0 hu1 hu2 d0 d1 d2; have bw4 := (bw2.alloc hs2 _).trans (bel4.mono (by simp; omega)); have SL4 := Lib.hid (SL2.out.below (((Below.refl w2.heap.size w2).alloc (Nat.le_refl _) _).trans (bel4.mono (by simp)))); have hcv := run_str_of (P := Try.prog) (c := c2) 27 9 5 Try.underlying27 Try.underlying5 Try.underlying9 SL4.out; clear own4 bel4)
    | fail)
  go_ret
  exact ⟨rfl, bw4⟩

set_option maxHeartbeats 1000000 in
theorem cut_any (s : ByteArray) (n : Nat) (ni : Int) (hni : ni = (n : Int)) (w : World) (_ : s.size ≤ maxLen) : Calls Try.prog 46 #[.string s, .int .i64 ni] w fun e w' => e = .returned (.string (s.extract 0 (min s.size n))) ∧ w = w' := by
  subst hni
  by_cases h : n < s.size
  · have HM := Lib.hid (show min s.size n = n by omega)
    go_enter Try.func46, Try.ntmps46
    go_wp2
    go_ret
    rw [HM.out]
    exact ⟨rfl, rfl⟩
  · have HM := Lib.hid (show min s.size n = s.size by omega)
    have HX := Lib.hid (show s.extract 0 s.size = s by simp)
    go_enter Try.func46, Try.ntmps46
    go_wp2
    go_ret
    rw [HM.out, HX.out]
    exact ⟨rfl, rfl⟩
end Go.Proofs.Ytfpmpihojjegbaa
