/- Contracts of what statements share (qanathelp): Plain, Same; Own, Kept, Spoil. Written by gen_help.py. -/
import Derived.Test.YtfpmpihojjegbaaFld7
import Derived.Test.YtfpmpihojjegbaaHelpL
import Derived.Handy
import Derived.Deep.RegionHeld3
import Derived.Deep.QuietTactic
import Derived.BigQuiet
namespace Go.Proofs.Ytfpmpihojjegbaa
open Go.RowKit

/-! ### qanat/api.Field -/
set_option maxHeartbeats 1000000 in
theorem plain1_fld (x : Fld) (w : World) :
    Calls Try.prog 45 #[.agg #[.int .i64 x.kind, .int .i64 x.n, .string x.s], .agg #[.int .i64 x.kind, .int .i64 x.n, .string x.s]] w fun e w' => e = .returned (.bool true) ∧ Below w.heap.size w w' := by
  go_enter Try.func45, Try.ntmps45
  go_wp2
  go_ret
  first
    | exact ⟨rfl, Below.refl _ _⟩
    | exact ⟨by simp, Below.refl _ _⟩
    | exact ⟨rfl, ((Below.refl _ _).alloc (Nat.le_refl _) _).alloc (by simp) _⟩
    | exact ⟨by simp, ((Below.refl _ _).alloc (Nat.le_refl _) _).alloc (by simp) _⟩

set_option maxHeartbeats 2000000 in
theorem same_fld (A A2 : Option Addr) (m c c2 : Nat) (l : List Fld) (w : World) (h : IsSl fldRep w (· < w.heap.size) A m l) (h2 : IsSl fldRep w (· < w.heap.size) A2 m l) (hn : m ≤ 281474976710656) :
    Calls Try.prog 44 #[.slice A m c, .slice A2 m c2, .func (.func 45) #[] #[]] w fun e w' => e = .returned (.bool true) ∧ Below w.heap.size w w' := by
  go_enter Try.func44, Try.ntmps44
  go_wp2_with fail
  go_loopw [7] (fun i wr => ∃ p : Nat, i = .int .i64 p ∧ p ≤ m ∧ Below w.heap.size w wr) (fun i _ => m - (intOf i).toNat)
  case atStart => exact ⟨0, rfl, Nat.zero_le _, Below.refl _ _⟩
  case round =>
    obtain ⟨p, rfl, hp, hbel⟩ := hrel
    obtain ⟨wo, rfl⟩ : ∃ wo : World, wo = wr := ⟨_, rfl⟩
    by_cases hlt : p < m
    · obtain ⟨b, off, x, cs, rfl, hbS, hx, ⟨rfl, hwf⟩, hc⟩ := h.at_ hlt
      obtain ⟨b2, off2, x2, cs2, rfl, hbS2, hx2, ⟨rfl, hwf2⟩, hc2⟩ := h2.at_ hlt
      obtain rfl : x = x2 := Option.some.inj (hx.symm.trans hx2)
      have c0 : wo.cell? ⟨b, off + p * 3, none⟩ = some (.int .i64 x.kind) := (hbel.cell hbS).trans (hc 0 _ rfl)
      have d0 : wo.cell? ⟨b2, off2 + p * 3, none⟩ = some (.int .i64 x.kind) := (hbel.cell hbS2).trans (hc2 0 _ rfl)
      have c1 : wo.cell? ⟨b, off + p * 3 + 1, none⟩ = some (.int .i64 x.n) := (hbel.cell hbS).trans (hc 1 _ rfl)
      have d1 : wo.cell? ⟨b2, off2 + p * 3 + 1, none⟩ = some (.int .i64 x.n) := (hbel.cell hbS2).trans (hc2 1 _ rfl)
      have c2 : wo.cell? ⟨b, off + p * 3 + 2, none⟩ = some (.string x.s) := (hbel.cell hbS).trans (hc 2 _ rfl)
      have d2 : wo.cell? ⟨b2, off2 + p * 3 + 2, none⟩ = some (.string x.s) := (hbel.cell hbS2).trans (hc2 2 _ rfl)
      have hs0 := hbel.size
      have hw1 : b < wo.heap.size := Nat.lt_of_lt_of_le hbS hs0
      have hw2 : b2 < wo.heap.size := Nat.lt_of_lt_of_le hbS2 hs0
      clear hc hc2 hx hx2 h h2 hwf hwf2
      go_wp2_with fail
      go_region_held3 (fun w' => w'.cell? ⟨b, off + p * 3, none⟩ = some (.int .i64 x.kind) ∧ w'.cell? ⟨b, off + p * 3 + 1, none⟩ = some (.int .i64 x.n) ∧ w'.cell? ⟨b, off + p * 3 + 2, none⟩ = some (.string x.s) ∧ w'.cell? ⟨b2, off2 + p * 3, none⟩ = some (.int .i64 x.kind) ∧ w'.cell? ⟨b2, off2 + p * 3 + 1, none⟩ = some (.int .i64 x.n) ∧ w'.cell? ⟨b2, off2 + p * 3 + 2, none⟩ = some (.string x.s)) (first | exact ⟨c0, c1, c2, d0, d1, d2⟩ | exact ⟨(bel2.cell hw1).trans c0, (bel2.cell hw1).trans c1, (bel2.cell hw1).trans c2, (bel2.cell hw2).trans d0, (bel2.cell hw2).trans d1, (bel2.cell hw2).trans d2⟩)
        (first | (go_at_call 45; (with_reducible refine (plain1_fld x _).mono ?_); rintro e w' ⟨rfl, bel2⟩))
      go_wp2
      go_roundw
      case rel => exact ⟨p + 1, by go_num, by omega, hbel.trans (Below.mono (B := wo.drew.heap.size) (w := wo) ⟨bel2.os, bel2.tape, bel2.output, bel2.size, bel2.block⟩ hs0)⟩
      case measure => simp [intOf]; omega
    · go_wp2
      go_ret
      exact ⟨rfl, hbel⟩

theorem plain_fld (A A2 : Option Addr) (n m c c2 : Nat) (l : List Fld) (w : World) (h : IsSl fldRep w (· < w.heap.size) A n l) (h2 : IsSl fldRep w (· < w.heap.size) A2 m l) (hn : n ≤ 281474976710656) :
    Calls Try.prog 22 #[.slice A n c, .slice A2 m c2] w fun e w' => e = .returned (.bool true) ∧ Below w.heap.size w w' := by
  obtain rfl : m = n := h2.len.trans h.len.symm
  have H := Lib.hid h
  have H2 := Lib.hid h2
  clear h h2
  go_enter Try.func22, Try.ntmps22
  go_wp2_with (go_at_call 44; (with_reducible refine (same_fld A A2 m c c2 l _ H.out H2.out hn).mono ?_); rintro e w' ⟨rfl, bel2⟩)
  go_ret
  exact ⟨rfl, bel2⟩

theorem info_h_fld : (Try.prog.info? 26).map (fun i => (i.zero, i.size, i.bytes)) = some (some (.agg #[.int .i64 0, .int .i64 0, .string ByteArray.empty]), 3, 32) := by kernel_rfl

set_option maxHeartbeats 2000000 in
theorem ownCopy_fld (A : Option Addr) (n c : Nat) (l : List Fld) (x : Fld) (w : World) (h : IsSl fldRep w (· < w.heap.size) A n l) (hxw : x.wf) (hn : n ≤ 100000000000) :
    Calls Try.prog 15 #[.slice A n c, .agg #[.int .i64 x.kind, .int .i64 x.n, .string x.s]] w fun e w' => ∃ g cap, e = .returned (.slice (some ⟨g, 0, none⟩) n (n + 3)) ∧ Own fldRep w' w.heap.size (fun _ => False) 26 (.slice (some ⟨g, 0, none⟩) (n + 3) cap) (l ++ [x, x, x]) ∧ Below w.heap.size w w' := by
  obtain ⟨i0, hi, hz0, hz1, hz2⟩ := info_parts info_h_fld
  have HL := Lib.hid h.len
  have H := Lib.hid h
  have hb0 : Below w.heap.size w (w.alloc (.cells #[.int .i64 x.kind, .int .i64 x.n, .string x.s] 26)) := (Below.refl _ _).alloc (Nat.le_refl _) _
  have hb1 : Below w.heap.size w ((w.alloc (.cells #[.int .i64 x.kind, .int .i64 x.n, .string x.s] 26)).alloc (.cells #[] 26)) := hb0.alloc (by simp) _
  clear h
  go_enter Try.func15, Try.ntmps15
  go_wp2_with (first
    | (at_builtin; refine wpList_append_Own _ rfl (.tmp 6) (.tmp 7) 22 rfl (w.heap.size + 1) 26 i0 _ 32 Try.underlying22 hi hz0 hz1 hz2 rfl (R := fldRep) (S := fun _ => False) (l := []) (l' := l) (.slice (some ⟨w.heap.size + 1, 0, none⟩) 0 0) rfl (Own.nil _ _ _ (fun _ h => h.elim) _ _) _ n c rfl ((H.out).srcF flat_fld hb1) (by simp only [maxLen, List.length_nil]; omega) (by simp only [List.length_nil]; omega) (by omega) (by simp) ?_; intro v1 w1 own1 gr1 at1; have bel1 := hb1.grown gr1 (by simp; omega) (by intro k hk; simp [rowOf] at hk); have bq := ((Below.refl (w.heap.size + 1) (w.alloc (.cells #[.int .i64 x.kind, .int .i64 x.n, .string x.s] 26))).alloc (by simp) (.cells #[] 26)).grown gr1 (by simp) (by intro k hk; simp [rowOf] at hk); simp only [List.nil_append] at own1; clear gr1 at1; have hf1 := own1.form; rw [← HL.out] at hf1; obtain ⟨A1, c1, rfl⟩ := hf1; have hs1 := bel1.size; have hs2 : w.heap.size + 1 ≤ w1.heap.size := by have := bq.size; simpa using this
       have f0 : w1.cell? ⟨w.heap.size, 0, none⟩ = some (.int .i64 x.kind) := (bq.cell (p := ⟨w.heap.size, 0, none⟩) (by simp)).trans (World.cell?_alloc_at _ _ _ _ rfl)
       have f1 : w1.cell? ⟨w.heap.size, 1, none⟩ = some (.int .i64 x.n) := (bq.cell (p := ⟨w.heap.size, 1, none⟩) (by simp)).trans (World.cell?_alloc_at _ _ _ _ rfl)
       have f2 : w1.cell? ⟨w.heap.size, 2, none⟩ = some (.string x.s) := (bq.cell (p := ⟨w.heap.size, 2, none⟩) (by simp)).trans (World.cell?_alloc_at _ _ _ _ rfl))
    | (at_builtin; refine wpList_append_Own _ rfl (.tmp 9) (.tmp 13) 22 rfl (w.heap.size + 1) 26 i0 _ 32 Try.underlying22 hi hz0 hz1 hz2 rfl (R := fldRep) (S := fun _ => False) (l := l) (l' := [x, x, x]) (.slice A1 n c1) rfl (own1.alloc _) _ 3 _ rfl (Src.new3 (xs := [.int .i64 x.kind, .int .i64 x.n, .string x.s, .int .i64 x.kind, .int .i64 x.n, .string x.s, .int .i64 x.kind, .int .i64 x.n, .string x.s]) ⟨rfl, hxw⟩ rfl) (by simp only [maxLen]; rw [← HL.out]; omega) (by rw [← HL.out]; omega) (by omega) (by simp; omega) ?_; intro v2 w2 own2 gr2 at2; have bel2 : Below w.heap.size w w2 := (bel1.alloc hs1 _).grown gr2 (by simp; omega) (fun k hk => by have := own1.row_ge hk; omega); clear gr2 at2; have hf2 := own2.form1 (by simp); rw [show (l ++ [x, x, x]).length = n + 3 by rw [List.length_append, ← HL.out]; rfl] at hf2; obtain ⟨g, cap, rfl, hgB, hgl, hcp1, hcp2⟩ := hf2; have OWN2 := Lib.hid own2; clear own2))
  go_ret
  exact ⟨g, cap, rfl, OWN2.out.mono (by omega), bel2⟩

set_option maxHeartbeats 2000000 in
theorem kept_fld (g n c2 : Nat) (A2 : Option Addr) (l : List Fld) (x : Fld) (w : World) (h : IsSl fldRep w (· < w.heap.size) (some ⟨g, 0, none⟩) (n + 3) (l ++ [x, x, x])) (h2 : IsSl fldRep w (· < w.heap.size) A2 n l) (hn : n ≤ 1000000000) :
    Calls Try.prog 19 #[.slice (some ⟨g, 0, none⟩) n (n + 3), .slice A2 n c2, .agg #[.int .i64 x.kind, .int .i64 x.n, .string x.s]] w fun e w' => e = .returned (.bool true) ∧ Below w.heap.size w w' := by
  have HL := Lib.hid h2.len
  have hb0 : Below w.heap.size w (w.alloc (.cells #[.int .i64 x.kind, .int .i64 x.n, .string x.s] 26)) := (Below.refl _ _).alloc (Nat.le_refl _) _
  have H := Lib.hid h
  have H1 := Lib.hid (((h.cutTo (hi := n) (by omega)).below hb0).more hb0.size)
  rw [show (l ++ [x, x, x]).take n = l by rw [h2.len, List.take_left]] at H1
  have H2 := Lib.hid ((h2.below hb0).more hb0.size)
  clear h h2
  go_enter Try.func19, Try.ntmps19
  go_wp2_with (go_at_call 22; (with_reducible refine (plain_fld _ A2 n n (n + 3) c2 l _ H1.out H2.out (by omega)).mono ?_); rintro e w2 ⟨rfl, bel2⟩)
  have hbq : Below (w.heap.size + 1) (w.alloc (.cells #[.int .i64 x.kind, .int .i64 x.n, .string x.s] 26)) w2 := bel2.mono (by simp)
  clear bel2
  go_loopw [8] (fun i wr => ∃ p : Nat, i = .int .i64 p ∧ n ≤ p ∧ p ≤ n + 3 ∧ Below (w.heap.size + 1) (w.alloc (.cells #[.int .i64 x.kind, .int .i64 x.n, .string x.s] 26)) wr) (fun i _ => n + 3 - (intOf i).toNat)
  case atStart => exact ⟨n, rfl, Nat.le_refl _, by omega, hbq⟩
  case round =>
    obtain ⟨p, rfl, hp0, hp, hbel⟩ := hrel
    obtain ⟨wo, rfl⟩ : ∃ wo : World, wo = wr := ⟨_, rfl⟩
    have hbelw : Below w.heap.size w wo := hb0.trans (hbel.mono (by omega))
    by_cases hlt : p < n + 3
    · obtain ⟨b, off, y, cs, hA, hbS, hx, ⟨rfl, hwf⟩, hc⟩ := H.out.at_ hlt
      obtain rfl : x = y := by
        rw [List.getElem?_append_right (by rw [← HL.out]; exact hp0), ← HL.out] at hx
        have : p - n = 0 ∨ p - n = 1 ∨ p - n = 2 := by omega
        rcases this with e | e | e <;> (rw [e] at hx; exact Option.some.inj hx)
      injection hA with hA
      injection hA with e1 e2 _
      subst e1 e2
      have c0 : wo.cell? ⟨g, p * 3, none⟩ = some (.int .i64 x.kind) := (hbelw.cell (p := ⟨g, p * 3, none⟩) hbS).trans (by have e := hc 0 _ rfl; rw [Nat.zero_add] at e; exact e)
      have c1 : wo.cell? ⟨g, p * 3 + 1, none⟩ = some (.int .i64 x.n) := (hbelw.cell (p := ⟨g, p * 3 + 1, none⟩) hbS).trans (by have e := hc 1 _ rfl; rw [Nat.zero_add] at e; exact e)
      have c2 : wo.cell? ⟨g, p * 3 + 2, none⟩ = some (.string x.s) := (hbelw.cell (p := ⟨g, p * 3 + 2, none⟩) hbS).trans (by have e := hc 2 _ rfl; rw [Nat.zero_add] at e; exact e)
      have f0 : wo.cell? ⟨w.heap.size, 0, none⟩ = some (.int .i64 x.kind) := (hbel.cell (p := ⟨w.heap.size, 0, none⟩) (by simp)).trans (World.cell?_alloc_at _ _ _ _ rfl)
      have f1 : wo.cell? ⟨w.heap.size, 1, none⟩ = some (.int .i64 x.n) := (hbel.cell (p := ⟨w.heap.size, 1, none⟩) (by simp)).trans (World.cell?_alloc_at _ _ _ _ rfl)
      have f2 : wo.cell? ⟨w.heap.size, 2, none⟩ = some (.string x.s) := (hbel.cell (p := ⟨w.heap.size, 2, none⟩) (by simp)).trans (World.cell?_alloc_at _ _ _ _ rfl)
      have hgw : g < wo.heap.size := Nat.lt_of_lt_of_le hbS hbelw.size
      clear hx hc
      go_wp2_with fail
      go_quiet (fail)
      go_wp2
      go_roundw
      case rel => exact ⟨p + 1, by go_num, by omega, by omega, by first | exact hbel | exact below_drewN hbel _⟩
      case measure => simp [intOf]; omega
    · go_wp2
      go_ret
      exact ⟨rfl, hbelw⟩


end Go.Proofs.Ytfpmpihojjegbaa
