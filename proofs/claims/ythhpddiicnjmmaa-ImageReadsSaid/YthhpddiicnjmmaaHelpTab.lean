/- Contract: qanathelp.Tables (true for equal lists of lists of rows). -/
import Derived.Test.YthhpddiicnjmmaaHelpRow
import Derived.Test.YthhpddiicnjmmaaImg1
set_option linter.unusedVariables false
namespace Go.Proofs.Ythhpddiicnjmmaa
open Go.RowKit

set_option maxHeartbeats 2000000 in
theorem same_tabs (A A2 : Option Addr) (m c c2 : Nat) (T : List (List Row)) (w : World) (h : IsSl (sliceRep rowRep) w (· < w.heap.size) A m T) (h2 : IsSl (sliceRep rowRep) w (· < w.heap.size) A2 m T) (hn : m ≤ 281474976710656) (hr : ∀ l ∈ T, l.length ≤ 281474976710656) :
    Calls Try.prog 67 #[.slice A m c, .slice A2 m c2, .func (.func 33) #[] #[]] w fun e w' => e = .returned (.bool true) ∧ Below w.heap.size w w' := by
  go_enter Try.func67, Try.ntmps67
  go_wp2_with fail
  go_loopw [7] (fun i wr => ∃ p : Nat, i = .int .i64 p ∧ p ≤ m ∧ Below w.heap.size w wr) (fun i _ => m - (intOf i).toNat)
  case atStart => exact ⟨0, rfl, Nat.zero_le _, Below.refl _ _⟩
  case round =>
    obtain ⟨p, rfl, hp, hbel⟩ := hrel
    obtain ⟨wo, rfl⟩ : ∃ wo : World, wo = wr := ⟨_, rfl⟩
    by_cases hlt : p < m
    · obtain ⟨b, off, x, A3, n3, c3, rfl, hbS, hx, sl3, hc31, hc32, c0⟩ := h.tabI hlt (fun q hq => hbel.cell hq)
      obtain ⟨b2, off2, x2, A4, n4, c4, rfl, hbS2, hx2, sl4, hc41, hc42, d0⟩ := h2.tabI hlt (fun q hq => hbel.cell hq)
      obtain rfl : x = x2 := Option.some.inj (hx.symm.trans hx2)
      have hs0 := hbel.size
      have hl3 := sl3.len
      have hxl := hr x (List.mem_of_getElem? hx)
      have K := Lib.hid (plain_row A3 A4 n3 n4 c3 c4 x wo.drew ((sl3.more hs0).keep fun _ _ => rfl) ((sl4.more hs0).keep fun _ _ => rfl) (by omega))
      clear hx hx2 h h2 sl3 sl4 hl3 hxl hr
      go_wp2_with fail
      go_region_held3 (fun w' => w'.cell? ⟨b, off + p, none⟩ = some (.slice A3 n3 c3) ∧ w'.cell? ⟨b2, off2 + p, none⟩ = some (.slice A4 n4 c4)) (first | exact ⟨c0, d0⟩ | exact ⟨(bel2.cell (Nat.lt_of_lt_of_le hbS hs0)).trans c0, (bel2.cell (Nat.lt_of_lt_of_le hbS2 hs0)).trans d0⟩ | fail)
        (first | (go_at_call 33; (with_reducible refine K.out.mono ?_); rintro e w' ⟨rfl, bel2⟩) | fail)
      go_wp2
      go_roundw
      case rel => exact ⟨p + 1, by go_num, by omega, hbel.trans (Below.mono (B := wo.drew.heap.size) (w := wo) ⟨bel2.os, bel2.tape, bel2.output, bel2.size, bel2.block⟩ hs0)⟩
      case measure => simp [intOf]; omega
    · go_wp2
      go_ret
      exact ⟨rfl, hbel⟩

theorem tables_any (A A2 : Option Addr) (n m c c2 : Nat) (T : List (List Row)) (w : World) (h : IsSl (sliceRep rowRep) w (· < w.heap.size) A n T) (h2 : IsSl (sliceRep rowRep) w (· < w.heap.size) A2 m T) (hn : n ≤ 281474976710656) (hr : ∀ l ∈ T, l.length ≤ 281474976710656) :
    Calls Try.prog 20 #[.slice A n c, .slice A2 m c2] w fun e w' => e = .returned (.bool true) ∧ Below w.heap.size w w' := by
  obtain rfl : m = n := h2.len.trans h.len.symm
  have H := Lib.hid h
  have H2 := Lib.hid h2
  have HR := Lib.hid hr
  clear h h2 hr
  go_enter Try.func20, Try.ntmps20
  go_wp2_with (go_at_call 67; (with_reducible refine (same_tabs A A2 m c c2 T _ H.out H2.out hn HR.out).mono ?_); rintro e w' ⟨rfl, bel2⟩)
  go_ret
  exact ⟨rfl, bel2⟩
end Go.Proofs.Ythhpddiicnjmmaa
