/- Contract: qanathelp.Many (true for equal lists of byte lists). -/
import Derived.Test.YtcohheoahdbgmaaFldA
import Derived.Test.YtcohheoahdbgmaaHelpL
import Derived.Handy
import Derived.Deep.RegionHeld3
import Derived.Deep.QuietTactic
import Derived.BigQuiet
set_option linter.unusedVariables false
namespace Go.Proofs.Ytcohheoahdbgmaa
open Go.RowKit

set_option maxHeartbeats 2000000 in
theorem same_bytes (A A2 : Option Addr) (m c c2 : Nat) (l : List (List UInt8)) (w : World) (h : IsSl (sliceRep byteRep) w (· < w.heap.size) A m l) (h2 : IsSl (sliceRep byteRep) w (· < w.heap.size) A2 m l) (hn : m ≤ 281474976710656) :
    Calls Try.prog 72 #[.slice A m c, .slice A2 m c2, .func (.func 22) #[] #[]] w fun e w' => e = .returned (.bool true) ∧ Below w.heap.size w w' := by
  go_enter Try.func72, Try.ntmps72
  go_wp2_with fail
  go_loopw [7] (fun i wr => ∃ p : Nat, i = .int .i64 p ∧ p ≤ m ∧ Below w.heap.size w wr) (fun i _ => m - (intOf i).toNat)
  case atStart => exact ⟨0, rfl, Nat.zero_le _, Below.refl _ _⟩
  case round =>
    obtain ⟨p, rfl, hp, hbel⟩ := hrel
    obtain ⟨wo, rfl⟩ : ∃ wo : World, wo = wr := ⟨_, rfl⟩
    by_cases hlt : p < m
    · obtain ⟨b, off, x, cs, rfl, hbS, hx, ⟨A3, n3, c3, rfl, sl3, hc31, hc32⟩, hc⟩ := h.at_ hlt
      obtain ⟨b2, off2, x2, cs2, rfl, hbS2, hx2, ⟨A4, n4, c4, rfl, sl4, hc41, hc42⟩, hc2⟩ := h2.at_ hlt
      obtain rfl : x = x2 := Option.some.inj (hx.symm.trans hx2)
      have c0 : wo.cell? ⟨b, off + p, none⟩ = some (.slice A3 n3 c3) := (hbel.cell hbS).trans (by have e := hc 0 _ rfl; rw [show off + p * (sliceRep byteRep).size + 0 = off + p by show off + p * 1 + 0 = _; omega] at e; exact e)
      have d0 : wo.cell? ⟨b2, off2 + p, none⟩ = some (.slice A4 n4 c4) := (hbel.cell hbS2).trans (by have e := hc2 0 _ rfl; rw [show off2 + p * (sliceRep byteRep).size + 0 = off2 + p by show off2 + p * 1 + 0 = _; omega] at e; exact e)
      have SL3 := Lib.hid (sl3.below hbel)
      have SL4 := Lib.hid (sl4.below hbel)
      have K := Lib.hid (bytes_any A3 A4 n3 c3 n4 c4 x wo.drew (· < w.heap.size) (· < w.heap.size) (SL3.out.keep fun _ _ => rfl) (SL4.out.keep fun _ _ => rfl))
      clear hc hc2 hx hx2 h h2 sl3 sl4
      go_wp2_with fail
      go_region_held3 (fun w' => w'.cell? ⟨b, off + p, none⟩ = some (.slice A3 n3 c3) ∧ w'.cell? ⟨b2, off2 + p, none⟩ = some (.slice A4 n4 c4)) (first | exact ⟨c0, d0⟩ | fail)
        (first | (go_at_call 22; (with_reducible refine K.out.mono ?_); rintro e w' ⟨rfl, rfl⟩) | fail)
      go_wp2
      go_roundw
      case rel => exact ⟨p + 1, by go_num, by omega, ⟨hbel.os, hbel.tape, hbel.output, hbel.size, hbel.block⟩⟩
      case measure => simp [intOf]; omega
    · go_wp2
      go_ret
      exact ⟨rfl, hbel⟩

theorem many_any (A A2 : Option Addr) (n m c c2 : Nat) (l : List (List UInt8)) (w : World) (h : IsSl (sliceRep byteRep) w (· < w.heap.size) A n l) (h2 : IsSl (sliceRep byteRep) w (· < w.heap.size) A2 m l) (hn : n ≤ 281474976710656) :
    Calls Try.prog 36 #[.slice A n c, .slice A2 m c2] w fun e w' => e = .returned (.bool true) ∧ Below w.heap.size w w' := by
  obtain rfl : m = n := h2.len.trans h.len.symm
  have H := Lib.hid h
  have H2 := Lib.hid h2
  clear h h2
  go_enter Try.func36, Try.ntmps36
  go_wp2_with (go_at_call 72; (with_reducible refine (same_bytes A A2 m c c2 l _ H.out H2.out hn).mono ?_); rintro e w' ⟨rfl, bel2⟩)
  go_ret
  exact ⟨rfl, bel2⟩
end Go.Proofs.Ytcohheoahdbgmaa
