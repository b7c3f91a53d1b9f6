/- Contracts: batch.op, batch.note: an op, a note of the next fields; Reader.More. Written by gen_bat6.py. -/
import Derived.Test.YtcohheoahdbgmaaBatL
set_option linter.unusedVariables false
set_option linter.unusedSimpArgs false
namespace Go.Proofs.Ytcohheoahdbgmaa
open Go.RowKit

set_option maxRecDepth 100000 in
set_option maxHeartbeats 8000000 in
theorem batop_any (B g : Nat) (l : List Fld) (bad : Bool) (w : World) (h : PRd w B g l bad) (hg : B ≤ g) :
    Calls Try.prog 56 #[.pointer (some ⟨g, 0, none⟩)] w fun ev w' => ev = .returned (.agg #[.int .i64 (rdOpr l bad).1.lsn, .int .i64 (rdOpr l bad).1.table, .int .i64 (rdOpr l bad).1.key, .bool (rdOpr l bad).1.gone, .string (rdOpr l bad).1.val]) ∧ PRd w' B g (rdOpr l bad).2.1 (rdOpr l bad).2.2 ∧ w.grownBy w' (some g) := by
  have hgs := h.lt
  have H := Lib.hid (h.alloc hg (.cells #[.int .i64 0, .int .i64 0, .int .i64 0, .bool false, .string ⟨#[]⟩] 29))
  obtain ⟨⟨x1, l1, b1⟩, h1⟩ : ∃ a, a = intP l bad := ⟨_, rfl⟩
  obtain ⟨⟨x2, l2, b2⟩, h2⟩ : ∃ a, a = smallP l1 b1 8 := ⟨_, rfl⟩
  obtain ⟨⟨x3, l3, b3⟩, h3⟩ : ∃ a, a = intP l2 b2 := ⟨_, rfl⟩
  obtain ⟨⟨x4, l4, b4⟩, h4⟩ : ∃ a, a = bitP l3 b3 := ⟨_, rfl⟩
  obtain ⟨⟨x5, l5, b5⟩, h5⟩ : ∃ a, a = textP l4 b4 := ⟨_, rfl⟩
  have HR := Lib.hid (show rdOpr l bad = (⟨x1, x2, x3, x4, x5⟩, l5, b5) by unfold rdOpr; rw [← h1]; dsimp only; rw [← h2]; dsimp only; rw [← h3]; dsimp only; rw [← h4]; dsimp only; rw [← h5])
  have H1 := Lib.hid h1
  have H2 := Lib.hid h2
  have H3 := Lib.hid h3
  have H4 := Lib.hid h4
  have H5 := Lib.hid h5
  clear h h1 h2 h3 h4 h5
  go_enter Try.func56, Try.ntmps56
  go_wp2_with (first
    | (go_at_call 53; (with_reducible refine (pint_any B g l bad _ H.out hg).mono ?_); rintro ev w1 ⟨rfl, rd2, gr2⟩; rw [← H1.out] at rd2 ⊢; have RD := Lib.hid rd2; have GR := Lib.hid gr2; obtain ⟨c0, z0⟩ := grown_cells (j := 0) hgs rfl GR.out rfl; obtain ⟨c1, z1⟩ := grown_cells (j := 1) hgs rfl GR.out rfl; obtain ⟨c2, z2⟩ := grown_cells (j := 2) hgs rfl GR.out rfl; obtain ⟨c3, z3⟩ := grown_cells (j := 3) hgs rfl GR.out rfl; obtain ⟨c4, z4⟩ := grown_cells (j := 4) hgs rfl GR.out rfl; clear rd2 gr2)
    | (go_at_call 54; (with_reducible refine (psmall_any B g l1 b1 8 _ RD.out hg).mono ?_); rintro ev w2 ⟨rfl, rd2, gr2⟩; rw [← H2.out] at rd2 ⊢; have RD := Lib.hid rd2; have GR := Lib.hid (grownBy_trans GR.out gr2); obtain ⟨c0, z0⟩ := grown_cells (j := 0) hgs rfl GR.out rfl; obtain ⟨c1, z1⟩ := grown_cells (j := 1) hgs rfl GR.out rfl; obtain ⟨c2, z2⟩ := grown_cells (j := 2) hgs rfl GR.out rfl; obtain ⟨c3, z3⟩ := grown_cells (j := 3) hgs rfl GR.out rfl; obtain ⟨c4, z4⟩ := grown_cells (j := 4) hgs rfl GR.out rfl; clear rd2 gr2)
    | (go_at_call 53; (with_reducible refine (pint_any B g l2 b2 _ RD.out hg).mono ?_); rintro ev w3 ⟨rfl, rd2, gr2⟩; rw [← H3.out] at rd2 ⊢; have RD := Lib.hid rd2; have GR := Lib.hid (grownBy_trans GR.out gr2); obtain ⟨c0, z0⟩ := grown_cells (j := 0) hgs rfl GR.out rfl; obtain ⟨c1, z1⟩ := grown_cells (j := 1) hgs rfl GR.out rfl; obtain ⟨c2, z2⟩ := grown_cells (j := 2) hgs rfl GR.out rfl; obtain ⟨c3, z3⟩ := grown_cells (j := 3) hgs rfl GR.out rfl; obtain ⟨c4, z4⟩ := grown_cells (j := 4) hgs rfl GR.out rfl; clear rd2 gr2)
    | (go_at_call 82; (with_reducible refine (pbit_any B g l3 b3 _ RD.out hg).mono ?_); rintro ev w4 ⟨rfl, rd2, gr2⟩; rw [← H4.out] at rd2 ⊢; have RD := Lib.hid rd2; have GR := Lib.hid (grownBy_trans GR.out gr2); obtain ⟨c0, z0⟩ := grown_cells (j := 0) hgs rfl GR.out rfl; obtain ⟨c1, z1⟩ := grown_cells (j := 1) hgs rfl GR.out rfl; obtain ⟨c2, z2⟩ := grown_cells (j := 2) hgs rfl GR.out rfl; obtain ⟨c3, z3⟩ := grown_cells (j := 3) hgs rfl GR.out rfl; obtain ⟨c4, z4⟩ := grown_cells (j := 4) hgs rfl GR.out rfl; clear rd2 gr2)
    | (go_at_call 83; (with_reducible refine (ptext_any B g l4 b4 _ RD.out hg).mono ?_); rintro ev w5 ⟨rfl, rd2, gr2⟩; rw [← H5.out] at rd2 ⊢; have RD := Lib.hid rd2; have GR := Lib.hid (grownBy_trans GR.out gr2); obtain ⟨c0, z0⟩ := grown_cells (j := 0) hgs rfl GR.out rfl; obtain ⟨c1, z1⟩ := grown_cells (j := 1) hgs rfl GR.out rfl; obtain ⟨c2, z2⟩ := grown_cells (j := 2) hgs rfl GR.out rfl; obtain ⟨c3, z3⟩ := grown_cells (j := 3) hgs rfl GR.out rfl; obtain ⟨c4, z4⟩ := grown_cells (j := 4) hgs rfl GR.out rfl; clear rd2 gr2)
    | fail)
  refine bodyPost_ret (by simp [results, Try.results56, go_sem, c0, c1, c2, c3, c4]; try rfl) rfl ?_
  rw [HR.out]
  exact ⟨rfl, (((((RD.out.stored hg hgs 0 _).stored hg hgs 1 _).stored hg hgs 2 _).stored hg hgs 3 _).stored hg hgs 4 _), (grown_set (grown_set (grown_set (grown_set (grown_set (grown_new GR.out) (Nat.le_refl _)) (Nat.le_refl _)) (Nat.le_refl _)) (Nat.le_refl _)) (Nat.le_refl _))⟩

set_option maxRecDepth 100000 in
set_option maxHeartbeats 8000000 in
theorem batnote_any (B g : Nat) (l : List Fld) (bad : Bool) (w : World) (h : PRd w B g l bad) (hg : B ≤ g) :
    Calls Try.prog 57 #[.pointer (some ⟨g, 0, none⟩)] w fun ev w' => ev = .returned (.agg #[.int .i64 (rdNote l bad).1.kind, .int .i64 (rdNote l bad).1.id, .int .i64 (rdNote l bad).1.table, .int .i64 (rdNote l bad).1.weight, .int .i64 (rdNote l bad).1.at_, .int .i64 (rdNote l bad).1.cursor, .bool (rdNote l bad).1.done]) ∧ PRd w' B g (rdNote l bad).2.1 (rdNote l bad).2.2 ∧ w.grownBy w' (some g) := by
  have hgs := h.lt
  have H := Lib.hid (h.alloc hg (.cells #[.int .i64 0, .int .i64 0, .int .i64 0, .int .i64 0, .int .i64 0, .int .i64 0, .bool false] 27))
  obtain ⟨⟨x1, l1, b1⟩, h1⟩ : ∃ a, a = smallP l bad 2 := ⟨_, rfl⟩
  obtain ⟨⟨x2, l2, b2⟩, h2⟩ : ∃ a, a = smallP l1 b1 64 := ⟨_, rfl⟩
  obtain ⟨⟨x3, l3, b3⟩, h3⟩ : ∃ a, a = smallP l2 b2 8 := ⟨_, rfl⟩
  obtain ⟨⟨x4, l4, b4⟩, h4⟩ : ∃ a, a = smallP l3 b3 8 := ⟨_, rfl⟩
  obtain ⟨⟨x5, l5, b5⟩, h5⟩ : ∃ a, a = intP l4 b4 := ⟨_, rfl⟩
  obtain ⟨⟨x6, l6, b6⟩, h6⟩ : ∃ a, a = intP l5 b5 := ⟨_, rfl⟩
  obtain ⟨⟨x7, l7, b7⟩, h7⟩ : ∃ a, a = bitP l6 b6 := ⟨_, rfl⟩
  have HR := Lib.hid (show rdNote l bad = (⟨x1, x2, x3, x4, x5, x6, x7⟩, l7, b7) by unfold rdNote; rw [← h1]; dsimp only; rw [← h2]; dsimp only; rw [← h3]; dsimp only; rw [← h4]; dsimp only; rw [← h5]; dsimp only; rw [← h6]; dsimp only; rw [← h7])
  have H1 := Lib.hid h1
  have H2 := Lib.hid h2
  have H3 := Lib.hid h3
  have H4 := Lib.hid h4
  have H5 := Lib.hid h5
  have H6 := Lib.hid h6
  have H7 := Lib.hid h7
  clear h h1 h2 h3 h4 h5 h6 h7
  go_enter Try.func57, Try.ntmps57
  go_wp2_with (first
    | (go_at_call 54; (with_reducible refine (psmall_any B g l bad 2 _ H.out hg).mono ?_); rintro ev w1 ⟨rfl, rd2, gr2⟩; rw [← H1.out] at rd2 ⊢; have RD := Lib.hid rd2; have GR := Lib.hid gr2; obtain ⟨c0, z0⟩ := grown_cells (j := 0) hgs rfl GR.out rfl; obtain ⟨c1, z1⟩ := grown_cells (j := 1) hgs rfl GR.out rfl; obtain ⟨c2, z2⟩ := grown_cells (j := 2) hgs rfl GR.out rfl; obtain ⟨c3, z3⟩ := grown_cells (j := 3) hgs rfl GR.out rfl; obtain ⟨c4, z4⟩ := grown_cells (j := 4) hgs rfl GR.out rfl; obtain ⟨c5, z5⟩ := grown_cells (j := 5) hgs rfl GR.out rfl; obtain ⟨c6, z6⟩ := grown_cells (j := 6) hgs rfl GR.out rfl; clear rd2 gr2)
    | (go_at_call 54; (with_reducible refine (psmall_any B g l1 b1 64 _ RD.out hg).mono ?_); rintro ev w2 ⟨rfl, rd2, gr2⟩; rw [← H2.out] at rd2 ⊢; have RD := Lib.hid rd2; have GR := Lib.hid (grownBy_trans GR.out gr2); obtain ⟨c0, z0⟩ := grown_cells (j := 0) hgs rfl GR.out rfl; obtain ⟨c1, z1⟩ := grown_cells (j := 1) hgs rfl GR.out rfl; obtain ⟨c2, z2⟩ := grown_cells (j := 2) hgs rfl GR.out rfl; obtain ⟨c3, z3⟩ := grown_cells (j := 3) hgs rfl GR.out rfl; obtain ⟨c4, z4⟩ := grown_cells (j := 4) hgs rfl GR.out rfl; obtain ⟨c5, z5⟩ := grown_cells (j := 5) hgs rfl GR.out rfl; obtain ⟨c6, z6⟩ := grown_cells (j := 6) hgs rfl GR.out rfl; clear rd2 gr2)
    | (go_at_call 54; (with_reducible refine (psmall_any B g l2 b2 8 _ RD.out hg).mono ?_); rintro ev w3 ⟨rfl, rd2, gr2⟩; rw [← H3.out] at rd2 ⊢; have RD := Lib.hid rd2; have GR := Lib.hid (grownBy_trans GR.out gr2); obtain ⟨c0, z0⟩ := grown_cells (j := 0) hgs rfl GR.out rfl; obtain ⟨c1, z1⟩ := grown_cells (j := 1) hgs rfl GR.out rfl; obtain ⟨c2, z2⟩ := grown_cells (j := 2) hgs rfl GR.out rfl; obtain ⟨c3, z3⟩ := grown_cells (j := 3) hgs rfl GR.out rfl; obtain ⟨c4, z4⟩ := grown_cells (j := 4) hgs rfl GR.out rfl; obtain ⟨c5, z5⟩ := grown_cells (j := 5) hgs rfl GR.out rfl; obtain ⟨c6, z6⟩ := grown_cells (j := 6) hgs rfl GR.out rfl; clear rd2 gr2)
    | (go_at_call 54; (with_reducible refine (psmall_any B g l3 b3 8 _ RD.out hg).mono ?_); rintro ev w4 ⟨rfl, rd2, gr2⟩; rw [← H4.out] at rd2 ⊢; have RD := Lib.hid rd2; have GR := Lib.hid (grownBy_trans GR.out gr2); obtain ⟨c0, z0⟩ := grown_cells (j := 0) hgs rfl GR.out rfl; obtain ⟨c1, z1⟩ := grown_cells (j := 1) hgs rfl GR.out rfl; obtain ⟨c2, z2⟩ := grown_cells (j := 2) hgs rfl GR.out rfl; obtain ⟨c3, z3⟩ := grown_cells (j := 3) hgs rfl GR.out rfl; obtain ⟨c4, z4⟩ := grown_cells (j := 4) hgs rfl GR.out rfl; obtain ⟨c5, z5⟩ := grown_cells (j := 5) hgs rfl GR.out rfl; obtain ⟨c6, z6⟩ := grown_cells (j := 6) hgs rfl GR.out rfl; clear rd2 gr2)
    | (go_at_call 53; (with_reducible refine (pint_any B g l4 b4 _ RD.out hg).mono ?_); rintro ev w5 ⟨rfl, rd2, gr2⟩; rw [← H5.out] at rd2 ⊢; have RD := Lib.hid rd2; have GR := Lib.hid (grownBy_trans GR.out gr2); obtain ⟨c0, z0⟩ := grown_cells (j := 0) hgs rfl GR.out rfl; obtain ⟨c1, z1⟩ := grown_cells (j := 1) hgs rfl GR.out rfl; obtain ⟨c2, z2⟩ := grown_cells (j := 2) hgs rfl GR.out rfl; obtain ⟨c3, z3⟩ := grown_cells (j := 3) hgs rfl GR.out rfl; obtain ⟨c4, z4⟩ := grown_cells (j := 4) hgs rfl GR.out rfl; obtain ⟨c5, z5⟩ := grown_cells (j := 5) hgs rfl GR.out rfl; obtain ⟨c6, z6⟩ := grown_cells (j := 6) hgs rfl GR.out rfl; clear rd2 gr2)
    | (go_at_call 53; (with_reducible refine (pint_any B g l5 b5 _ RD.out hg).mono ?_); rintro ev w6 ⟨rfl, rd2, gr2⟩; rw [← H6.out] at rd2 ⊢; have RD := Lib.hid rd2; have GR := Lib.hid (grownBy_trans GR.out gr2); obtain ⟨c0, z0⟩ := grown_cells (j := 0) hgs rfl GR.out rfl; obtain ⟨c1, z1⟩ := grown_cells (j := 1) hgs rfl GR.out rfl; obtain ⟨c2, z2⟩ := grown_cells (j := 2) hgs rfl GR.out rfl; obtain ⟨c3, z3⟩ := grown_cells (j := 3) hgs rfl GR.out rfl; obtain ⟨c4, z4⟩ := grown_cells (j := 4) hgs rfl GR.out rfl; obtain ⟨c5, z5⟩ := grown_cells (j := 5) hgs rfl GR.out rfl; obtain ⟨c6, z6⟩ := grown_cells (j := 6) hgs rfl GR.out rfl; clear rd2 gr2)
    | (go_at_call 82; (with_reducible refine (pbit_any B g l6 b6 _ RD.out hg).mono ?_); rintro ev w7 ⟨rfl, rd2, gr2⟩; rw [← H7.out] at rd2 ⊢; have RD := Lib.hid rd2; have GR := Lib.hid (grownBy_trans GR.out gr2); obtain ⟨c0, z0⟩ := grown_cells (j := 0) hgs rfl GR.out rfl; obtain ⟨c1, z1⟩ := grown_cells (j := 1) hgs rfl GR.out rfl; obtain ⟨c2, z2⟩ := grown_cells (j := 2) hgs rfl GR.out rfl; obtain ⟨c3, z3⟩ := grown_cells (j := 3) hgs rfl GR.out rfl; obtain ⟨c4, z4⟩ := grown_cells (j := 4) hgs rfl GR.out rfl; obtain ⟨c5, z5⟩ := grown_cells (j := 5) hgs rfl GR.out rfl; obtain ⟨c6, z6⟩ := grown_cells (j := 6) hgs rfl GR.out rfl; clear rd2 gr2)
    | fail)
  refine bodyPost_ret (by simp [results, Try.results57, go_sem, c0, c1, c2, c3, c4, c5, c6]; try rfl) rfl ?_
  rw [HR.out]
  exact ⟨rfl, (((((((RD.out.stored hg hgs 0 _).stored hg hgs 1 _).stored hg hgs 2 _).stored hg hgs 3 _).stored hg hgs 4 _).stored hg hgs 5 _).stored hg hgs 6 _), (grown_set (grown_set (grown_set (grown_set (grown_set (grown_set (grown_set (grown_new GR.out) (Nat.le_refl _)) (Nat.le_refl _)) (Nat.le_refl _)) (Nat.le_refl _)) (Nat.le_refl _)) (Nat.le_refl _)) (Nat.le_refl _))⟩

set_option maxRecDepth 100000 in
set_option maxHeartbeats 1000000 in
theorem pmore_any (B g : Nat) (l : List Fld) (bad : Bool) (w : World) (h : PRd w B g l bad) (hg : B ≤ g) :
    Calls Try.prog 55 #[.pointer (some ⟨g, 0, none⟩)] w fun ev w' => ev = .returned (.bool (!bad)) ∧ w = w' := by
  obtain ⟨A, n, c, c0, c1, hz⟩ := h
  clear hz
  cases bad
  all_goals
    go_enter Try.func55, Try.ntmps55
    go_wp2
    go_ret
    exact ⟨rfl, rfl⟩
end Go.Proofs.Ytcohheoahdbgmaa
