/- Contracts of what statements share (qanathelp): Plain, Same; Own, Kept, Spoil. Written by gen_help.py. -/
import Derived.Test.YthhpddiicnjmmaaReqG
import Derived.Test.YthhpddiicnjmmaaHelpL
import Derived.Handy
import Derived.Deep.RegionHeld3
import Derived.Deep.QuietTactic
import Derived.BigQuiet
set_option maxRecDepth 100000
namespace Go.Proofs.Ythhpddiicnjmmaa
open Go.RowKit

/-! ### qanat/api.Req -/
set_option maxHeartbeats 1000000 in
theorem plain1_req (x : Req) (w : World) :
    Calls Try.prog 94 #[.agg #[.int .i64 x.id, .int .i64 x.table, .int .i64 x.weight, .int .i64 x.at_, .int .i64 x.cursor, .int .i64 x.chunks, .bool x.done], .agg #[.int .i64 x.id, .int .i64 x.table, .int .i64 x.weight, .int .i64 x.at_, .int .i64 x.cursor, .int .i64 x.chunks, .bool x.done]] w fun e w' => e = .returned (.bool true) ∧ Below w.heap.size w w' := by
  go_enter Try.func94, Try.ntmps94
  go_wp2
  go_ret
  first
    | exact ⟨rfl, Below.refl _ _⟩
    | exact ⟨by simp, Below.refl _ _⟩
    | exact ⟨rfl, ((Below.refl _ _).alloc (Nat.le_refl _) _).alloc (by simp) _⟩
    | exact ⟨by simp, ((Below.refl _ _).alloc (Nat.le_refl _) _).alloc (by simp) _⟩

set_option maxHeartbeats 2000000 in
theorem same_req (A A2 : Option Addr) (m c c2 : Nat) (l : List Req) (w : World) (h : IsSl reqRep w (· < w.heap.size) A m l) (h2 : IsSl reqRep w (· < w.heap.size) A2 m l) (hn : m ≤ 281474976710656) :
    Calls Try.prog 93 #[.slice A m c, .slice A2 m c2, .func (.func 94) #[] #[]] w fun e w' => e = .returned (.bool true) ∧ Below w.heap.size w w' := by
  go_enter Try.func93, Try.ntmps93
  go_wp2_with fail
  go_loopw [7] (fun i wr => ∃ p : Nat, i = .int .i64 p ∧ p ≤ m ∧ Below w.heap.size w wr) (fun i _ => m - (intOf i).toNat)
  case atStart => exact ⟨0, rfl, Nat.zero_le _, Below.refl _ _⟩
  case round =>
    obtain ⟨p, rfl, hp, hbel⟩ := hrel
    obtain ⟨wo, rfl⟩ : ∃ wo : World, wo = wr := ⟨_, rfl⟩
    by_cases hlt : p < m
    · obtain ⟨b, off, x, cs, rfl, hbS, hx, ⟨rfl, hwf⟩, hc⟩ := h.at_ hlt
      obtain ⟨b2, off2, x2, cs2, rfl, hbS2, hx2, ⟨rfl, hwf2⟩, hc2⟩ := h2.at_ hlt
      obtain rfl : x = x2 := Option.some.inj (hx.symm.trans hx2)
      have c0 : wo.cell? ⟨b, off + p * 7, none⟩ = some (.int .i64 x.id) := (hbel.cell hbS).trans (hc 0 _ rfl)
      have d0 : wo.cell? ⟨b2, off2 + p * 7, none⟩ = some (.int .i64 x.id) := (hbel.cell hbS2).trans (hc2 0 _ rfl)
      have c1 : wo.cell? ⟨b, off + p * 7 + 1, none⟩ = some (.int .i64 x.table) := (hbel.cell hbS).trans (hc 1 _ rfl)
      have d1 : wo.cell? ⟨b2, off2 + p * 7 + 1, none⟩ = some (.int .i64 x.table) := (hbel.cell hbS2).trans (hc2 1 _ rfl)
      have c2 : wo.cell? ⟨b, off + p * 7 + 2, none⟩ = some (.int .i64 x.weight) := (hbel.cell hbS).trans (hc 2 _ rfl)
      have d2 : wo.cell? ⟨b2, off2 + p * 7 + 2, none⟩ = some (.int .i64 x.weight) := (hbel.cell hbS2).trans (hc2 2 _ rfl)
      have c3 : wo.cell? ⟨b, off + p * 7 + 3, none⟩ = some (.int .i64 x.at_) := (hbel.cell hbS).trans (hc 3 _ rfl)
      have d3 : wo.cell? ⟨b2, off2 + p * 7 + 3, none⟩ = some (.int .i64 x.at_) := (hbel.cell hbS2).trans (hc2 3 _ rfl)
      have c4 : wo.cell? ⟨b, off + p * 7 + 4, none⟩ = some (.int .i64 x.cursor) := (hbel.cell hbS).trans (hc 4 _ rfl)
      have d4 : wo.cell? ⟨b2, off2 + p * 7 + 4, none⟩ = some (.int .i64 x.cursor) := (hbel.cell hbS2).trans (hc2 4 _ rfl)
      have c5 : wo.cell? ⟨b, off + p * 7 + 5, none⟩ = some (.int .i64 x.chunks) := (hbel.cell hbS).trans (hc 5 _ rfl)
      have d5 : wo.cell? ⟨b2, off2 + p * 7 + 5, none⟩ = some (.int .i64 x.chunks) := (hbel.cell hbS2).trans (hc2 5 _ rfl)
      have c6 : wo.cell? ⟨b, off + p * 7 + 6, none⟩ = some (.bool x.done) := (hbel.cell hbS).trans (hc 6 _ rfl)
      have d6 : wo.cell? ⟨b2, off2 + p * 7 + 6, none⟩ = some (.bool x.done) := (hbel.cell hbS2).trans (hc2 6 _ rfl)
      have hs0 := hbel.size
      have hw1 : b < wo.heap.size := Nat.lt_of_lt_of_le hbS hs0
      have hw2 : b2 < wo.heap.size := Nat.lt_of_lt_of_le hbS2 hs0
      clear hc hc2 hx hx2 h h2 hwf hwf2
      go_wp2_with fail
      go_region_held3 (fun w' => w'.cell? ⟨b, off + p * 7, none⟩ = some (.int .i64 x.id) ∧ w'.cell? ⟨b, off + p * 7 + 1, none⟩ = some (.int .i64 x.table) ∧ w'.cell? ⟨b, off + p * 7 + 2, none⟩ = some (.int .i64 x.weight) ∧ w'.cell? ⟨b, off + p * 7 + 3, none⟩ = some (.int .i64 x.at_) ∧ w'.cell? ⟨b, off + p * 7 + 4, none⟩ = some (.int .i64 x.cursor) ∧ w'.cell? ⟨b, off + p * 7 + 5, none⟩ = some (.int .i64 x.chunks) ∧ w'.cell? ⟨b, off + p * 7 + 6, none⟩ = some (.bool x.done) ∧ w'.cell? ⟨b2, off2 + p * 7, none⟩ = some (.int .i64 x.id) ∧ w'.cell? ⟨b2, off2 + p * 7 + 1, none⟩ = some (.int .i64 x.table) ∧ w'.cell? ⟨b2, off2 + p * 7 + 2, none⟩ = some (.int .i64 x.weight) ∧ w'.cell? ⟨b2, off2 + p * 7 + 3, none⟩ = some (.int .i64 x.at_) ∧ w'.cell? ⟨b2, off2 + p * 7 + 4, none⟩ = some (.int .i64 x.cursor) ∧ w'.cell? ⟨b2, off2 + p * 7 + 5, none⟩ = some (.int .i64 x.chunks) ∧ w'.cell? ⟨b2, off2 + p * 7 + 6, none⟩ = some (.bool x.done)) (first | exact ⟨c0, c1, c2, c3, c4, c5, c6, d0, d1, d2, d3, d4, d5, d6⟩ | exact ⟨(bel2.cell hw1).trans c0, (bel2.cell hw1).trans c1, (bel2.cell hw1).trans c2, (bel2.cell hw1).trans c3, (bel2.cell hw1).trans c4, (bel2.cell hw1).trans c5, (bel2.cell hw1).trans c6, (bel2.cell hw2).trans d0, (bel2.cell hw2).trans d1, (bel2.cell hw2).trans d2, (bel2.cell hw2).trans d3, (bel2.cell hw2).trans d4, (bel2.cell hw2).trans d5, (bel2.cell hw2).trans d6⟩)
        (first | (go_at_call 94; (with_reducible refine (plain1_req x _).mono ?_); rintro e w' ⟨rfl, bel2⟩))
      go_wp2
      go_roundw
      case rel => exact ⟨p + 1, by go_num, by omega, hbel.trans (Below.mono (B := wo.drew.heap.size) (w := wo) ⟨bel2.os, bel2.tape, bel2.output, bel2.size, bel2.block⟩ hs0)⟩
      case measure => simp [intOf]; omega
    · go_wp2
      go_ret
      exact ⟨rfl, hbel⟩

theorem plain_req (A A2 : Option Addr) (n m c c2 : Nat) (l : List Req) (w : World) (h : IsSl reqRep w (· < w.heap.size) A n l) (h2 : IsSl reqRep w (· < w.heap.size) A2 m l) (hn : n ≤ 281474976710656) :
    Calls Try.prog 39 #[.slice A n c, .slice A2 m c2] w fun e w' => e = .returned (.bool true) ∧ Below w.heap.size w w' := by
  obtain rfl : m = n := h2.len.trans h.len.symm
  have H := Lib.hid h
  have H2 := Lib.hid h2
  clear h h2
  go_enter Try.func39, Try.ntmps39
  go_wp2_with (go_at_call 93; (with_reducible refine (same_req A A2 m c c2 l _ H.out H2.out hn).mono ?_); rintro e w' ⟨rfl, bel2⟩)
  go_ret
  exact ⟨rfl, bel2⟩

theorem info_h_req : (Try.prog.info? 94).map (fun i => (i.zero, i.size, i.bytes)) = some (some (.agg #[.int .i64 0, .int .i64 0, .int .i64 0, .int .i64 0, .int .i64 0, .int .i64 0, .bool false]), 7, 56) := by kernel_rfl




end Go.Proofs.Ythhpddiicnjmmaa
