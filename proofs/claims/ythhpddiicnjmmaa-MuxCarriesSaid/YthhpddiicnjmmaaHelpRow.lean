/- Contracts of what statements share (qanathelp) at rows: Plain, Same. Written by gen_help.py. -/
import Derived.Test.YthhpddiicnjmmaaTypesM
import Derived.Test.YthhpddiicnjmmaaHelpL
import Derived.Handy
import Derived.Deep.RegionHeld3
import Derived.Deep.QuietTactic
import Derived.BigQuiet
set_option maxRecDepth 100000
namespace Go.Proofs.Ythhpddiicnjmmaa
open Go.RowKit

/-! ### qanat/api.Row -/
set_option maxHeartbeats 1000000 in
theorem plain1_row (x : Row) (w : World) :
    Calls Try.prog 84 #[.agg #[.int .i64 x.key, .string x.val], .agg #[.int .i64 x.key, .string x.val]] w fun e w' => e = .returned (.bool true) ∧ Below w.heap.size w w' := by
  go_enter Try.func84, Try.ntmps84
  go_wp2
  go_ret
  first
    | exact ⟨rfl, Below.refl _ _⟩
    | exact ⟨by simp, Below.refl _ _⟩
    | exact ⟨rfl, ((Below.refl _ _).alloc (Nat.le_refl _) _).alloc (by simp) _⟩
    | exact ⟨by simp, ((Below.refl _ _).alloc (Nat.le_refl _) _).alloc (by simp) _⟩

set_option maxHeartbeats 2000000 in
theorem same_row (A A2 : Option Addr) (m c c2 : Nat) (l : List Row) (w : World) (h : IsSl rowRep w (· < w.heap.size) A m l) (h2 : IsSl rowRep w (· < w.heap.size) A2 m l) (hn : m ≤ 281474976710656) :
    Calls Try.prog 83 #[.slice A m c, .slice A2 m c2, .func (.func 84) #[] #[]] w fun e w' => e = .returned (.bool true) ∧ Below w.heap.size w w' := by
  go_enter Try.func83, Try.ntmps83
  go_wp2_with fail
  go_loopw [7] (fun i wr => ∃ p : Nat, i = .int .i64 p ∧ p ≤ m ∧ Below w.heap.size w wr) (fun i _ => m - (intOf i).toNat)
  case atStart => exact ⟨0, rfl, Nat.zero_le _, Below.refl _ _⟩
  case round =>
    obtain ⟨p, rfl, hp, hbel⟩ := hrel
    obtain ⟨wo, rfl⟩ : ∃ wo : World, wo = wr := ⟨_, rfl⟩
    by_cases hlt : p < m
    · obtain ⟨b, off, x, cs, rfl, hbS, hx, ⟨rfl, hwf⟩, hc⟩ := h.at_ hlt
      obtain ⟨b2, off2, x2, cs2, rfl, hbS2, hx2, ⟨rfl, hwf2⟩, hc2⟩ := h2.at_ hlt
      obtain rfl : x = x2 := Option.some.inj (hx.symm.trans hx2)
      have c0 : wo.cell? ⟨b, off + p * 2, none⟩ = some (.int .i64 x.key) := (hbel.cell hbS).trans (hc 0 _ rfl)
      have d0 : wo.cell? ⟨b2, off2 + p * 2, none⟩ = some (.int .i64 x.key) := (hbel.cell hbS2).trans (hc2 0 _ rfl)
      have c1 : wo.cell? ⟨b, off + p * 2 + 1, none⟩ = some (.string x.val) := (hbel.cell hbS).trans (hc 1 _ rfl)
      have d1 : wo.cell? ⟨b2, off2 + p * 2 + 1, none⟩ = some (.string x.val) := (hbel.cell hbS2).trans (hc2 1 _ rfl)
      have hs0 := hbel.size
      have hw1 : b < wo.heap.size := Nat.lt_of_lt_of_le hbS hs0
      have hw2 : b2 < wo.heap.size := Nat.lt_of_lt_of_le hbS2 hs0
      clear hc hc2 hx hx2 h h2 hwf hwf2
      go_wp2_with fail
      go_region_held3 (fun w' => w'.cell? ⟨b, off + p * 2, none⟩ = some (.int .i64 x.key) ∧ w'.cell? ⟨b, off + p * 2 + 1, none⟩ = some (.string x.val) ∧ w'.cell? ⟨b2, off2 + p * 2, none⟩ = some (.int .i64 x.key) ∧ w'.cell? ⟨b2, off2 + p * 2 + 1, none⟩ = some (.string x.val)) (first | exact ⟨c0, c1, d0, d1⟩ | exact ⟨(bel2.cell hw1).trans c0, (bel2.cell hw1).trans c1, (bel2.cell hw2).trans d0, (bel2.cell hw2).trans d1⟩)
        (first | (go_at_call 84; (with_reducible refine (plain1_row x _).mono ?_); rintro e w' ⟨rfl, bel2⟩))
      go_wp2
      go_roundw
      case rel => exact ⟨p + 1, by go_num, by omega, hbel.trans (Below.mono (B := wo.drew.heap.size) (w := wo) ⟨bel2.os, bel2.tape, bel2.output, bel2.size, bel2.block⟩ hs0)⟩
      case measure => simp [intOf]; omega
    · go_wp2
      go_ret
      exact ⟨rfl, hbel⟩

theorem plain_row (A A2 : Option Addr) (n m c c2 : Nat) (l : List Row) (w : World) (h : IsSl rowRep w (· < w.heap.size) A n l) (h2 : IsSl rowRep w (· < w.heap.size) A2 m l) (hn : n ≤ 281474976710656) :
    Calls Try.prog 33 #[.slice A n c, .slice A2 m c2] w fun e w' => e = .returned (.bool true) ∧ Below w.heap.size w w' := by
  obtain rfl : m = n := h2.len.trans h.len.symm
  have H := Lib.hid h
  have H2 := Lib.hid h2
  clear h h2
  go_enter Try.func33, Try.ntmps33
  go_wp2_with (go_at_call 83; (with_reducible refine (same_row A A2 m c c2 l _ H.out H2.out hn).mono ?_); rintro e w' ⟨rfl, bel2⟩)
  go_ret
  exact ⟨rfl, bel2⟩

end Go.Proofs.Ythhpddiicnjmmaa
