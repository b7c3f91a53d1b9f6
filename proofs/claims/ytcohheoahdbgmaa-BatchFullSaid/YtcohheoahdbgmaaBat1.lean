/- Contracts: which ops and notes may be in an item: batch's and the reference's. Written by gen_bat1.py. -/
import Derived.Test.YtcohheoahdbgmaaRefP
set_option linter.unusedVariables false
set_option linter.unusedSimpArgs false
namespace Go.Proofs.Ytcohheoahdbgmaa
open Go.RowKit

/-- May an op be in an item of that number? -/
def mayOpr (o : Opr) (lsn : Int) : Bool := decide (1 ≤ o.lsn ∧ o.lsn ≤ lsn ∧ 0 ≤ o.table ∧ o.table < 8 ∧ 1 ≤ o.key ∧ o.key ≤ 1099511627776 ∧ o.val.size ≤ 32 ∧ (o.gone = false ∨ o.val.size = 0))
/-- May a note? -/
def mayAcc (n : Note) (lsn : Int) : Bool := decide (0 ≤ n.table ∧ n.table < 8 ∧ 1 ≤ n.weight ∧ n.weight ≤ 8 ∧ 1 ≤ n.at_ ∧ n.at_ ≤ lsn ∧ n.cursor = 0 ∧ n.done = false)
def mayChk (n : Note) : Bool := decide (n.table = 0 ∧ n.weight = 0 ∧ n.at_ = 0 ∧ 0 ≤ n.cursor ∧ n.cursor ≤ 1099511627776)
def mayNot (n : Note) (lsn : Int) : Bool := decide (1 ≤ n.id ∧ n.id ≤ 64) && (if n.kind = 1 then mayAcc n lsn else if n.kind = 2 then mayChk n else false)

set_option maxRecDepth 100000 in
set_option maxHeartbeats 8000000 in
theorem mayOp_any (o : Opr) (lsn : Int) (w : World) :
    Calls Try.prog 47 #[.agg #[.int .i64 o.lsn, .int .i64 o.table, .int .i64 o.key, .bool o.gone, .string o.val], .int .i64 lsn] w fun e w' => e = .returned (.bool (mayOpr o lsn)) ∧ Below w.heap.size w w' := by
  obtain ⟨ol, ot, ok, og, ov⟩ := o
  have hcases : (ol < 1) ∨ (1 ≤ ol ∧ lsn < ol) ∨ (1 ≤ ol ∧ ol ≤ lsn ∧ ot < 0) ∨ (1 ≤ ol ∧ ol ≤ lsn ∧ 0 ≤ ot ∧ 8 ≤ ot) ∨ (1 ≤ ol ∧ ol ≤ lsn ∧ 0 ≤ ot ∧ ot < 8 ∧ ok < 1) ∨ (1 ≤ ol ∧ ol ≤ lsn ∧ 0 ≤ ot ∧ ot < 8 ∧ 1 ≤ ok ∧ 1099511627776 < ok) ∨ (1 ≤ ol ∧ ol ≤ lsn ∧ 0 ≤ ot ∧ ot < 8 ∧ 1 ≤ ok ∧ ok ≤ 1099511627776 ∧ 32 < ov.size) ∨ (1 ≤ ol ∧ ol ≤ lsn ∧ 0 ≤ ot ∧ ot < 8 ∧ 1 ≤ ok ∧ ok ≤ 1099511627776 ∧ ov.size ≤ 32 ∧ ov.size = 0) ∨ (1 ≤ ol ∧ ol ≤ lsn ∧ 0 ≤ ot ∧ ot < 8 ∧ 1 ≤ ok ∧ ok ≤ 1099511627776 ∧ ov.size ≤ 32 ∧ ¬ ov.size = 0) := by omega
  rcases hcases with h0 | ⟨h0, h1⟩ | ⟨h0, h1, h2⟩ | ⟨h0, h1, h2, h3⟩ | ⟨h0, h1, h2, h3, h4⟩ | ⟨h0, h1, h2, h3, h4, h5⟩ | ⟨h0, h1, h2, h3, h4, h5, h6⟩ | ⟨h0, h1, h2, h3, h4, h5, h6, h7⟩ | ⟨h0, h1, h2, h3, h4, h5, h6, h7⟩
  · have HM := Lib.hid (show mayOpr ⟨ol, ot, ok, og, ov⟩ lsn = false from decide_eq_false (by dsimp only; omega))
    have hb0_0 : decide (1 ≤ ol) = false := by simp; omega
    have hb0_1 : decide (ol < 1) = true := by simp; omega
    go_enter Try.func47, Try.ntmps47
    go_wp2
    go_ret
    rw [HM.out]
    exact ⟨rfl, (Below.refl _ _).alloc (Nat.le_refl _) _⟩
  · have HM := Lib.hid (show mayOpr ⟨ol, ot, ok, og, ov⟩ lsn = false from decide_eq_false (by dsimp only; omega))
    have hb0_0 : decide (1 ≤ ol) = true := by simp; omega
    have hb0_1 : decide (ol < 1) = false := by simp; omega
    have hb1_0 : decide (ol ≤ lsn) = false := by simp; omega
    have hb1_1 : decide (lsn < ol) = true := by simp; omega
    go_enter Try.func47, Try.ntmps47
    go_wp2
    go_ret
    rw [HM.out]
    exact ⟨rfl, (Below.refl _ _).alloc (Nat.le_refl _) _⟩
  · have HM := Lib.hid (show mayOpr ⟨ol, ot, ok, og, ov⟩ lsn = false from decide_eq_false (by dsimp only; omega))
    have hb0_0 : decide (1 ≤ ol) = true := by simp; omega
    have hb0_1 : decide (ol < 1) = false := by simp; omega
    have hb1_0 : decide (ol ≤ lsn) = true := by simp; omega
    have hb1_1 : decide (lsn < ol) = false := by simp; omega
    have hb2_0 : decide (0 ≤ ot) = false := by simp; omega
    have hb2_1 : decide (ot < 0) = true := by simp; omega
    go_enter Try.func47, Try.ntmps47
    go_wp2
    go_ret
    rw [HM.out]
    exact ⟨rfl, (Below.refl _ _).alloc (Nat.le_refl _) _⟩
  · have HM := Lib.hid (show mayOpr ⟨ol, ot, ok, og, ov⟩ lsn = false from decide_eq_false (by dsimp only; omega))
    have hb0_0 : decide (1 ≤ ol) = true := by simp; omega
    have hb0_1 : decide (ol < 1) = false := by simp; omega
    have hb1_0 : decide (ol ≤ lsn) = true := by simp; omega
    have hb1_1 : decide (lsn < ol) = false := by simp; omega
    have hb2_0 : decide (0 ≤ ot) = true := by simp; omega
    have hb2_1 : decide (ot < 0) = false := by simp; omega
    have hb3_0 : decide (ot < 8) = false := by simp; omega
    have hb3_1 : decide (8 ≤ ot) = true := by simp; omega
    go_enter Try.func47, Try.ntmps47
    go_wp2
    go_ret
    rw [HM.out]
    exact ⟨rfl, (Below.refl _ _).alloc (Nat.le_refl _) _⟩
  · have HM := Lib.hid (show mayOpr ⟨ol, ot, ok, og, ov⟩ lsn = false from decide_eq_false (by dsimp only; omega))
    have hb0_0 : decide (1 ≤ ol) = true := by simp; omega
    have hb0_1 : decide (ol < 1) = false := by simp; omega
    have hb1_0 : decide (ol ≤ lsn) = true := by simp; omega
    have hb1_1 : decide (lsn < ol) = false := by simp; omega
    have hb2_0 : decide (0 ≤ ot) = true := by simp; omega
    have hb2_1 : decide (ot < 0) = false := by simp; omega
    have hb3_0 : decide (ot < 8) = true := by simp; omega
    have hb3_1 : decide (8 ≤ ot) = false := by simp; omega
    have hb4_0 : decide (1 ≤ ok) = false := by simp; omega
    have hb4_1 : decide (ok < 1) = true := by simp; omega
    go_enter Try.func47, Try.ntmps47
    go_wp2
    go_ret
    rw [HM.out]
    exact ⟨rfl, (Below.refl _ _).alloc (Nat.le_refl _) _⟩
  · have HM := Lib.hid (show mayOpr ⟨ol, ot, ok, og, ov⟩ lsn = false from decide_eq_false (by dsimp only; omega))
    have hb0_0 : decide (1 ≤ ol) = true := by simp; omega
    have hb0_1 : decide (ol < 1) = false := by simp; omega
    have hb1_0 : decide (ol ≤ lsn) = true := by simp; omega
    have hb1_1 : decide (lsn < ol) = false := by simp; omega
    have hb2_0 : decide (0 ≤ ot) = true := by simp; omega
    have hb2_1 : decide (ot < 0) = false := by simp; omega
    have hb3_0 : decide (ot < 8) = true := by simp; omega
    have hb3_1 : decide (8 ≤ ot) = false := by simp; omega
    have hb4_0 : decide (1 ≤ ok) = true := by simp; omega
    have hb4_1 : decide (ok < 1) = false := by simp; omega
    have hb5_0 : decide (ok ≤ 1099511627776) = false := by simp; omega
    have hb5_1 : decide (1099511627776 < ok) = true := by simp; omega
    go_enter Try.func47, Try.ntmps47
    go_wp2
    go_ret
    rw [HM.out]
    exact ⟨rfl, (Below.refl _ _).alloc (Nat.le_refl _) _⟩
  · have HM := Lib.hid (show mayOpr ⟨ol, ot, ok, og, ov⟩ lsn = false from decide_eq_false (by dsimp only; omega))
    have hb0_0 : decide (1 ≤ ol) = true := by simp; omega
    have hb0_1 : decide (ol < 1) = false := by simp; omega
    have hb1_0 : decide (ol ≤ lsn) = true := by simp; omega
    have hb1_1 : decide (lsn < ol) = false := by simp; omega
    have hb2_0 : decide (0 ≤ ot) = true := by simp; omega
    have hb2_1 : decide (ot < 0) = false := by simp; omega
    have hb3_0 : decide (ot < 8) = true := by simp; omega
    have hb3_1 : decide (8 ≤ ot) = false := by simp; omega
    have hb4_0 : decide (1 ≤ ok) = true := by simp; omega
    have hb4_1 : decide (ok < 1) = false := by simp; omega
    have hb5_0 : decide (ok ≤ 1099511627776) = true := by simp; omega
    have hb5_1 : decide (1099511627776 < ok) = false := by simp; omega
    have hz : decide ((ov.size : Int) ≤ 32) = false := by simp; omega
    have hz2 : decide (ov.size ≤ 32) = false := by simp; omega
    go_enter Try.func47, Try.ntmps47
    go_wp2
    go_ret
    rw [HM.out]
    exact ⟨rfl, (Below.refl _ _).alloc (Nat.le_refl _) _⟩
  · obtain rfl := str_nil ov h7
    have hb0_0 : decide (1 ≤ ol) = true := by simp; omega
    have hb0_1 : decide (ol < 1) = false := by simp; omega
    have hb1_0 : decide (ol ≤ lsn) = true := by simp; omega
    have hb1_1 : decide (lsn < ol) = false := by simp; omega
    have hb2_0 : decide (0 ≤ ot) = true := by simp; omega
    have hb2_1 : decide (ot < 0) = false := by simp; omega
    have hb3_0 : decide (ot < 8) = true := by simp; omega
    have hb3_1 : decide (8 ≤ ot) = false := by simp; omega
    have hb4_0 : decide (1 ≤ ok) = true := by simp; omega
    have hb4_1 : decide (ok < 1) = false := by simp; omega
    have hb5_0 : decide (ok ≤ 1099511627776) = true := by simp; omega
    have hb5_1 : decide (1099511627776 < ok) = false := by simp; omega
    have HM := Lib.hid (show mayOpr ⟨ol, ot, ok, og, ⟨#[]⟩⟩ lsn = true from decide_eq_true ⟨h0, h1, h2, h3, h4, h5, h6, .inr h7⟩)
    clear h6 h7
    cases og
    · go_enter Try.func47, Try.ntmps47
      go_wp2
      go_ret
      rw [HM.out]
      exact ⟨rfl, (Below.refl _ _).alloc (Nat.le_refl _) _⟩
    · go_enter Try.func47, Try.ntmps47
      go_wp2
      go_ret
      rw [HM.out]
      exact ⟨rfl, (Below.refl _ _).alloc (Nat.le_refl _) _⟩
  · have hn : ov.toList.isEmpty = false := by rw [str_empty]; simpa using h7
    have hb0_0 : decide (1 ≤ ol) = true := by simp; omega
    have hb0_1 : decide (ol < 1) = false := by simp; omega
    have hb1_0 : decide (ol ≤ lsn) = true := by simp; omega
    have hb1_1 : decide (lsn < ol) = false := by simp; omega
    have hb2_0 : decide (0 ≤ ot) = true := by simp; omega
    have hb2_1 : decide (ot < 0) = false := by simp; omega
    have hb3_0 : decide (ot < 8) = true := by simp; omega
    have hb3_1 : decide (8 ≤ ot) = false := by simp; omega
    have hb4_0 : decide (1 ≤ ok) = true := by simp; omega
    have hb4_1 : decide (ok < 1) = false := by simp; omega
    have hb5_0 : decide (ok ≤ 1099511627776) = true := by simp; omega
    have hb5_1 : decide (1099511627776 < ok) = false := by simp; omega
    have hz : decide ((ov.size : Int) ≤ 32) = true := by simp; omega
    have hz2 : decide (ov.size ≤ 32) = true := by simp; omega
    cases og
    · have HM := Lib.hid (show mayOpr ⟨ol, ot, ok, false, ov⟩ lsn = true from decide_eq_true ⟨h0, h1, h2, h3, h4, h5, h6, .inl rfl⟩)
      clear h7
      go_enter Try.func47, Try.ntmps47
      go_wp2
      go_ret
      rw [HM.out]
      exact ⟨rfl, (Below.refl _ _).alloc (Nat.le_refl _) _⟩
    · have HM := Lib.hid (show mayOpr ⟨ol, ot, ok, true, ov⟩ lsn = false from decide_eq_false (by rintro ⟨_, _, _, _, _, _, _, h | h⟩ <;> first | cases h | exact h7 h))
      clear h7
      go_enter Try.func47, Try.ntmps47
      go_wp2
      go_ret
      rw [HM.out]
      exact ⟨rfl, (Below.refl _ _).alloc (Nat.le_refl _) _⟩

set_option maxRecDepth 100000 in
set_option maxHeartbeats 16000000 in
theorem mayNote_any (n : Note) (lsn : Int) (w : World) :
    Calls Try.prog 48 #[.agg #[.int .i64 n.kind, .int .i64 n.id, .int .i64 n.table, .int .i64 n.weight, .int .i64 n.at_, .int .i64 n.cursor, .bool n.done], .int .i64 lsn] w fun e w' => e = .returned (.bool (mayNot n lsn)) ∧ Below w.heap.size w w' := by
  obtain ⟨nk, ni, nt, nw, na, nc, nd⟩ := n
  have hid : (ni < 1) ∨ (1 ≤ ni ∧ 64 < ni) ∨ (1 ≤ ni ∧ ni ≤ 64) := by omega
  rcases hid with h0 | ⟨h0, h1⟩ | ⟨h0, h1⟩
  · have HM := Lib.hid (show mayNot ⟨nk, ni, nt, nw, na, nc, nd⟩ lsn = false by unfold mayNot; rw [decide_eq_false (by dsimp only; omega)]; rfl)
    have hb0_0 : decide (1 ≤ ni) = false := by simp; omega
    have hb0_1 : decide (ni < 1) = true := by simp; omega
    go_enter Try.func48, Try.ntmps48
    go_wp2
    go_ret
    rw [HM.out]
    exact ⟨rfl, (Below.refl _ _).alloc (Nat.le_refl _) _⟩
  · have HM := Lib.hid (show mayNot ⟨nk, ni, nt, nw, na, nc, nd⟩ lsn = false by unfold mayNot; rw [decide_eq_false (by dsimp only; omega)]; rfl)
    have hb0_0 : decide (1 ≤ ni) = true := by simp; omega
    have hb0_1 : decide (ni < 1) = false := by simp; omega
    have hb1_0 : decide (ni ≤ 64) = false := by simp; omega
    have hb1_1 : decide (64 < ni) = true := by simp; omega
    go_enter Try.func48, Try.ntmps48
    go_wp2
    go_ret
    rw [HM.out]
    exact ⟨rfl, (Below.refl _ _).alloc (Nat.le_refl _) _⟩
  · have HI := Lib.hid (show decide (1 ≤ ni ∧ ni ≤ 64) = true from decide_eq_true ⟨h0, h1⟩)
    have hb0_0 : decide (1 ≤ ni) = true := by simp; omega
    have hb0_1 : decide (ni < 1) = false := by simp; omega
    have hb1_0 : decide (ni ≤ 64) = true := by simp; omega
    have hb1_1 : decide (64 < ni) = false := by simp; omega
    by_cases hk1 : nk = 1
    · have HM0 := Lib.hid (show mayNot ⟨nk, ni, nt, nw, na, nc, nd⟩ lsn = mayAcc ⟨nk, ni, nt, nw, na, nc, nd⟩ lsn by unfold mayNot; dsimp only; rw [HI.out, if_pos hk1]; rfl)
      subst hk1
      have hcases : (nt < 0) ∨ (0 ≤ nt ∧ 8 ≤ nt) ∨ (0 ≤ nt ∧ nt < 8 ∧ nw < 1) ∨ (0 ≤ nt ∧ nt < 8 ∧ 1 ≤ nw ∧ 8 < nw) ∨ (0 ≤ nt ∧ nt < 8 ∧ 1 ≤ nw ∧ nw ≤ 8 ∧ na < 1) ∨ (0 ≤ nt ∧ nt < 8 ∧ 1 ≤ nw ∧ nw ≤ 8 ∧ 1 ≤ na ∧ lsn < na) ∨ (0 ≤ nt ∧ nt < 8 ∧ 1 ≤ nw ∧ nw ≤ 8 ∧ 1 ≤ na ∧ na ≤ lsn ∧ ¬ nc = 0) ∨ (0 ≤ nt ∧ nt < 8 ∧ 1 ≤ nw ∧ nw ≤ 8 ∧ 1 ≤ na ∧ na ≤ lsn ∧ nc = 0) := by omega
      rcases hcases with k0 | ⟨k0, k1⟩ | ⟨k0, k1, k2⟩ | ⟨k0, k1, k2, k3⟩ | ⟨k0, k1, k2, k3, k4⟩ | ⟨k0, k1, k2, k3, k4, k5⟩ | ⟨k0, k1, k2, k3, k4, k5, k6⟩ | ⟨k0, k1, k2, k3, k4, k5, k6⟩
      · have HM := Lib.hid (show mayAcc ⟨1, ni, nt, nw, na, nc, nd⟩ lsn = false from decide_eq_false (by dsimp only; omega))
        have hb10_0 : decide (0 ≤ nt) = false := by simp; omega
        have hb10_1 : decide (nt < 0) = true := by simp; omega
        go_enter Try.func48, Try.ntmps48
        go_wp2
        go_ret
        rw [HM0.out, HM.out]
        exact ⟨rfl, (Below.refl _ _).alloc (Nat.le_refl _) _⟩
      · have HM := Lib.hid (show mayAcc ⟨1, ni, nt, nw, na, nc, nd⟩ lsn = false from decide_eq_false (by dsimp only; omega))
        have hb10_0 : decide (0 ≤ nt) = true := by simp; omega
        have hb10_1 : decide (nt < 0) = false := by simp; omega
        have hb11_0 : decide (nt < 8) = false := by simp; omega
        have hb11_1 : decide (8 ≤ nt) = true := by simp; omega
        go_enter Try.func48, Try.ntmps48
        go_wp2
        go_ret
        rw [HM0.out, HM.out]
        exact ⟨rfl, (Below.refl _ _).alloc (Nat.le_refl _) _⟩
      · have HM := Lib.hid (show mayAcc ⟨1, ni, nt, nw, na, nc, nd⟩ lsn = false from decide_eq_false (by dsimp only; omega))
        have hb10_0 : decide (0 ≤ nt) = true := by simp; omega
        have hb10_1 : decide (nt < 0) = false := by simp; omega
        have hb11_0 : decide (nt < 8) = true := by simp; omega
        have hb11_1 : decide (8 ≤ nt) = false := by simp; omega
        have hb12_0 : decide (1 ≤ nw) = false := by simp; omega
        have hb12_1 : decide (nw < 1) = true := by simp; omega
        go_enter Try.func48, Try.ntmps48
        go_wp2
        go_ret
        rw [HM0.out, HM.out]
        exact ⟨rfl, (Below.refl _ _).alloc (Nat.le_refl _) _⟩
      · have HM := Lib.hid (show mayAcc ⟨1, ni, nt, nw, na, nc, nd⟩ lsn = false from decide_eq_false (by dsimp only; omega))
        have hb10_0 : decide (0 ≤ nt) = true := by simp; omega
        have hb10_1 : decide (nt < 0) = false := by simp; omega
        have hb11_0 : decide (nt < 8) = true := by simp; omega
        have hb11_1 : decide (8 ≤ nt) = false := by simp; omega
        have hb12_0 : decide (1 ≤ nw) = true := by simp; omega
        have hb12_1 : decide (nw < 1) = false := by simp; omega
        have hb13_0 : decide (nw ≤ 8) = false := by simp; omega
        have hb13_1 : decide (8 < nw) = true := by simp; omega
        go_enter Try.func48, Try.ntmps48
        go_wp2
        go_ret
        rw [HM0.out, HM.out]
        exact ⟨rfl, (Below.refl _ _).alloc (Nat.le_refl _) _⟩
      · have HM := Lib.hid (show mayAcc ⟨1, ni, nt, nw, na, nc, nd⟩ lsn = false from decide_eq_false (by dsimp only; omega))
        have hb10_0 : decide (0 ≤ nt) = true := by simp; omega
        have hb10_1 : decide (nt < 0) = false := by simp; omega
        have hb11_0 : decide (nt < 8) = true := by simp; omega
        have hb11_1 : decide (8 ≤ nt) = false := by simp; omega
        have hb12_0 : decide (1 ≤ nw) = true := by simp; omega
        have hb12_1 : decide (nw < 1) = false := by simp; omega
        have hb13_0 : decide (nw ≤ 8) = true := by simp; omega
        have hb13_1 : decide (8 < nw) = false := by simp; omega
        have hb14_0 : decide (1 ≤ na) = false := by simp; omega
        have hb14_1 : decide (na < 1) = true := by simp; omega
        go_enter Try.func48, Try.ntmps48
        go_wp2
        go_ret
        rw [HM0.out, HM.out]
        exact ⟨rfl, (Below.refl _ _).alloc (Nat.le_refl _) _⟩
      · have HM := Lib.hid (show mayAcc ⟨1, ni, nt, nw, na, nc, nd⟩ lsn = false from decide_eq_false (by dsimp only; omega))
        have hb10_0 : decide (0 ≤ nt) = true := by simp; omega
        have hb10_1 : decide (nt < 0) = false := by simp; omega
        have hb11_0 : decide (nt < 8) = true := by simp; omega
        have hb11_1 : decide (8 ≤ nt) = false := by simp; omega
        have hb12_0 : decide (1 ≤ nw) = true := by simp; omega
        have hb12_1 : decide (nw < 1) = false := by simp; omega
        have hb13_0 : decide (nw ≤ 8) = true := by simp; omega
        have hb13_1 : decide (8 < nw) = false := by simp; omega
        have hb14_0 : decide (1 ≤ na) = true := by simp; omega
        have hb14_1 : decide (na < 1) = false := by simp; omega
        have hb15_0 : decide (na ≤ lsn) = false := by simp; omega
        have hb15_1 : decide (lsn < na) = true := by simp; omega
        go_enter Try.func48, Try.ntmps48
        go_wp2
        go_ret
        rw [HM0.out, HM.out]
        exact ⟨rfl, (Below.refl _ _).alloc (Nat.le_refl _) _⟩
      · have HM := Lib.hid (show mayAcc ⟨1, ni, nt, nw, na, nc, nd⟩ lsn = false from decide_eq_false (by dsimp only; omega))
        have hb10_0 : decide (0 ≤ nt) = true := by simp; omega
        have hb10_1 : decide (nt < 0) = false := by simp; omega
        have hb11_0 : decide (nt < 8) = true := by simp; omega
        have hb11_1 : decide (8 ≤ nt) = false := by simp; omega
        have hb12_0 : decide (1 ≤ nw) = true := by simp; omega
        have hb12_1 : decide (nw < 1) = false := by simp; omega
        have hb13_0 : decide (nw ≤ 8) = true := by simp; omega
        have hb13_1 : decide (8 < nw) = false := by simp; omega
        have hb14_0 : decide (1 ≤ na) = true := by simp; omega
        have hb14_1 : decide (na < 1) = false := by simp; omega
        have hb15_0 : decide (na ≤ lsn) = true := by simp; omega
        have hb15_1 : decide (lsn < na) = false := by simp; omega
        have hb16_0 : (nc == 0) = false := by simp; omega
        have hb16_1 : (nc != 0) = true := by simp; omega
        clear k6
        go_enter Try.func48, Try.ntmps48
        go_wp2
        go_ret
        rw [HM0.out, HM.out]
        exact ⟨rfl, (Below.refl _ _).alloc (Nat.le_refl _) _⟩
      · have HM := Lib.hid (show mayAcc ⟨1, ni, nt, nw, na, nc, nd⟩ lsn = !nd by cases nd; exact decide_eq_true ⟨k0, k1, k2, k3, k4, k5, k6, rfl⟩; exact decide_eq_false (fun h => by cases h.2.2.2.2.2.2.2))
        have hb10_0 : decide (0 ≤ nt) = true := by simp; omega
        have hb10_1 : decide (nt < 0) = false := by simp; omega
        have hb11_0 : decide (nt < 8) = true := by simp; omega
        have hb11_1 : decide (8 ≤ nt) = false := by simp; omega
        have hb12_0 : decide (1 ≤ nw) = true := by simp; omega
        have hb12_1 : decide (nw < 1) = false := by simp; omega
        have hb13_0 : decide (nw ≤ 8) = true := by simp; omega
        have hb13_1 : decide (8 < nw) = false := by simp; omega
        have hb14_0 : decide (1 ≤ na) = true := by simp; omega
        have hb14_1 : decide (na < 1) = false := by simp; omega
        have hb15_0 : decide (na ≤ lsn) = true := by simp; omega
        have hb15_1 : decide (lsn < na) = false := by simp; omega
        have hb16_0 : (nc == 0) = true := by simp; omega
        have hb16_1 : (nc != 0) = false := by simp; omega
        clear k6
        cases nd
        · go_enter Try.func48, Try.ntmps48
          go_wp2
          go_ret
          rw [HM0.out, HM.out]
          exact ⟨rfl, (Below.refl _ _).alloc (Nat.le_refl _) _⟩
        · go_enter Try.func48, Try.ntmps48
          go_wp2
          go_ret
          rw [HM0.out, HM.out]
          exact ⟨rfl, (Below.refl _ _).alloc (Nat.le_refl _) _⟩
    · by_cases hk2 : nk = 2
      · have HM0 := Lib.hid (show mayNot ⟨nk, ni, nt, nw, na, nc, nd⟩ lsn = mayChk ⟨nk, ni, nt, nw, na, nc, nd⟩ by unfold mayNot; dsimp only; rw [HI.out, if_neg hk1, if_pos hk2]; rfl)
        clear hk1
        subst hk2
        have hcases : (¬ nt = 0) ∨ (nt = 0 ∧ ¬ nw = 0) ∨ (nt = 0 ∧ nw = 0 ∧ ¬ na = 0) ∨ (nt = 0 ∧ nw = 0 ∧ na = 0 ∧ nc < 0) ∨ (nt = 0 ∧ nw = 0 ∧ na = 0 ∧ 0 ≤ nc ∧ 1099511627776 < nc) ∨ (nt = 0 ∧ nw = 0 ∧ na = 0 ∧ 0 ≤ nc ∧ nc ≤ 1099511627776) := by omega
        rcases hcases with k0 | ⟨k0, k1⟩ | ⟨k0, k1, k2⟩ | ⟨k0, k1, k2, k3⟩ | ⟨k0, k1, k2, k3, k4⟩ | ⟨k0, k1, k2, k3, k4⟩
        · have HM := Lib.hid (show mayChk ⟨2, ni, nt, nw, na, nc, nd⟩ = false from decide_eq_false (by dsimp only; omega))
          have hb10_0 : (nt == 0) = false := by simp; omega
          have hb10_1 : (nt != 0) = true := by simp; omega
          clear k0
          go_enter Try.func48, Try.ntmps48
          go_wp2
          go_ret
          rw [HM0.out, HM.out]
          exact ⟨rfl, (Below.refl _ _).alloc (Nat.le_refl _) _⟩
        · have HM := Lib.hid (show mayChk ⟨2, ni, nt, nw, na, nc, nd⟩ = false from decide_eq_false (by dsimp only; omega))
          have hb10_0 : (nt == 0) = true := by simp; omega
          have hb10_1 : (nt != 0) = false := by simp; omega
          have hb11_0 : (nw == 0) = false := by simp; omega
          have hb11_1 : (nw != 0) = true := by simp; omega
          clear k0
          clear k1
          go_enter Try.func48, Try.ntmps48
          go_wp2
          go_ret
          rw [HM0.out, HM.out]
          exact ⟨rfl, (Below.refl _ _).alloc (Nat.le_refl _) _⟩
        · have HM := Lib.hid (show mayChk ⟨2, ni, nt, nw, na, nc, nd⟩ = false from decide_eq_false (by dsimp only; omega))
          have hb10_0 : (nt == 0) = true := by simp; omega
          have hb10_1 : (nt != 0) = false := by simp; omega
          have hb11_0 : (nw == 0) = true := by simp; omega
          have hb11_1 : (nw != 0) = false := by simp; omega
          have hb12_0 : (na == 0) = false := by simp; omega
          have hb12_1 : (na != 0) = true := by simp; omega
          clear k0
          clear k1
          clear k2
          go_enter Try.func48, Try.ntmps48
          go_wp2
          go_ret
          rw [HM0.out, HM.out]
          exact ⟨rfl, (Below.refl _ _).alloc (Nat.le_refl _) _⟩
        · have HM := Lib.hid (show mayChk ⟨2, ni, nt, nw, na, nc, nd⟩ = false from decide_eq_false (by dsimp only; omega))
          have hb10_0 : (nt == 0) = true := by simp; omega
          have hb10_1 : (nt != 0) = false := by simp; omega
          have hb11_0 : (nw == 0) = true := by simp; omega
          have hb11_1 : (nw != 0) = false := by simp; omega
          have hb12_0 : (na == 0) = true := by simp; omega
          have hb12_1 : (na != 0) = false := by simp; omega
          have hb13_0 : decide (0 ≤ nc) = false := by simp; omega
          have hb13_1 : decide (nc < 0) = true := by simp; omega
          clear k0
          clear k1
          clear k2
          go_enter Try.func48, Try.ntmps48
          go_wp2
          go_ret
          rw [HM0.out, HM.out]
          exact ⟨rfl, (Below.refl _ _).alloc (Nat.le_refl _) _⟩
        · have HM := Lib.hid (show mayChk ⟨2, ni, nt, nw, na, nc, nd⟩ = false from decide_eq_false (by dsimp only; omega))
          have hb10_0 : (nt == 0) = true := by simp; omega
          have hb10_1 : (nt != 0) = false := by simp; omega
          have hb11_0 : (nw == 0) = true := by simp; omega
          have hb11_1 : (nw != 0) = false := by simp; omega
          have hb12_0 : (na == 0) = true := by simp; omega
          have hb12_1 : (na != 0) = false := by simp; omega
          have hb13_0 : decide (0 ≤ nc) = true := by simp; omega
          have hb13_1 : decide (nc < 0) = false := by simp; omega
          have hb14_0 : decide (nc ≤ 1099511627776) = false := by simp; omega
          have hb14_1 : decide (1099511627776 < nc) = true := by simp; omega
          clear k0
          clear k1
          clear k2
          go_enter Try.func48, Try.ntmps48
          go_wp2
          go_ret
          rw [HM0.out, HM.out]
          exact ⟨rfl, (Below.refl _ _).alloc (Nat.le_refl _) _⟩
        · have HM := Lib.hid (show mayChk ⟨2, ni, nt, nw, na, nc, nd⟩ = true from decide_eq_true ⟨k0, k1, k2, k3, k4⟩)
          have hb10_0 : (nt == 0) = true := by simp; omega
          have hb10_1 : (nt != 0) = false := by simp; omega
          have hb11_0 : (nw == 0) = true := by simp; omega
          have hb11_1 : (nw != 0) = false := by simp; omega
          have hb12_0 : (na == 0) = true := by simp; omega
          have hb12_1 : (na != 0) = false := by simp; omega
          have hb13_0 : decide (0 ≤ nc) = true := by simp; omega
          have hb13_1 : decide (nc < 0) = false := by simp; omega
          have hb14_0 : decide (nc ≤ 1099511627776) = true := by simp; omega
          have hb14_1 : decide (1099511627776 < nc) = false := by simp; omega
          clear k0
          clear k1
          clear k2
          go_enter Try.func48, Try.ntmps48
          go_wp2
          go_ret
          rw [HM0.out, HM.out]
          exact ⟨rfl, (Below.refl _ _).alloc (Nat.le_refl _) _⟩
      · have HM := Lib.hid (show mayNot ⟨nk, ni, nt, nw, na, nc, nd⟩ lsn = false by unfold mayNot; dsimp only; rw [HI.out, if_neg hk1, if_neg hk2]; rfl)
        have hb7 : (nk == 1) = false := by simpa using hk1
        have hb8 : (nk == 2) = false := by simpa using hk2
        clear hk1 hk2
        go_enter Try.func48, Try.ntmps48
        go_wp2
        go_ret
        rw [HM.out]
        exact ⟨rfl, (Below.refl _ _).alloc (Nat.le_refl _) _⟩

set_option maxRecDepth 100000 in
set_option maxHeartbeats 16000000 in
theorem refmayNote_any (n : Note) (lsn : Int) (w : World) :
    Calls Try.prog 50 #[.agg #[.int .i64 n.kind, .int .i64 n.id, .int .i64 n.table, .int .i64 n.weight, .int .i64 n.at_, .int .i64 n.cursor, .bool n.done], .int .i64 lsn] w fun e w' => e = .returned (.bool (mayNot n lsn)) ∧ Below w.heap.size w w' := by
  obtain ⟨nk, ni, nt, nw, na, nc, nd⟩ := n
  have hid : (ni < 1) ∨ (1 ≤ ni ∧ 64 < ni) ∨ (1 ≤ ni ∧ ni ≤ 64) := by omega
  rcases hid with h0 | ⟨h0, h1⟩ | ⟨h0, h1⟩
  · have HM := Lib.hid (show mayNot ⟨nk, ni, nt, nw, na, nc, nd⟩ lsn = false by unfold mayNot; rw [decide_eq_false (by dsimp only; omega)]; rfl)
    have hb0_0 : decide (1 ≤ ni) = false := by simp; omega
    have hb0_1 : decide (ni < 1) = true := by simp; omega
    go_enter Try.func50, Try.ntmps50
    go_wp2
    go_ret
    rw [HM.out]
    exact ⟨rfl, (Below.refl _ _).alloc (Nat.le_refl _) _⟩
  · have HM := Lib.hid (show mayNot ⟨nk, ni, nt, nw, na, nc, nd⟩ lsn = false by unfold mayNot; rw [decide_eq_false (by dsimp only; omega)]; rfl)
    have hb0_0 : decide (1 ≤ ni) = true := by simp; omega
    have hb0_1 : decide (ni < 1) = false := by simp; omega
    have hb1_0 : decide (ni ≤ 64) = false := by simp; omega
    have hb1_1 : decide (64 < ni) = true := by simp; omega
    go_enter Try.func50, Try.ntmps50
    go_wp2
    go_ret
    rw [HM.out]
    exact ⟨rfl, (Below.refl _ _).alloc (Nat.le_refl _) _⟩
  · have HI := Lib.hid (show decide (1 ≤ ni ∧ ni ≤ 64) = true from decide_eq_true ⟨h0, h1⟩)
    have hb0_0 : decide (1 ≤ ni) = true := by simp; omega
    have hb0_1 : decide (ni < 1) = false := by simp; omega
    have hb1_0 : decide (ni ≤ 64) = true := by simp; omega
    have hb1_1 : decide (64 < ni) = false := by simp; omega
    by_cases hk1 : nk = 1
    · have HM0 := Lib.hid (show mayNot ⟨nk, ni, nt, nw, na, nc, nd⟩ lsn = mayAcc ⟨nk, ni, nt, nw, na, nc, nd⟩ lsn by unfold mayNot; dsimp only; rw [HI.out, if_pos hk1]; rfl)
      subst hk1
      have hcases : (nt < 0) ∨ (0 ≤ nt ∧ 8 ≤ nt) ∨ (0 ≤ nt ∧ nt < 8 ∧ nw < 1) ∨ (0 ≤ nt ∧ nt < 8 ∧ 1 ≤ nw ∧ 8 < nw) ∨ (0 ≤ nt ∧ nt < 8 ∧ 1 ≤ nw ∧ nw ≤ 8 ∧ na < 1) ∨ (0 ≤ nt ∧ nt < 8 ∧ 1 ≤ nw ∧ nw ≤ 8 ∧ 1 ≤ na ∧ lsn < na) ∨ (0 ≤ nt ∧ nt < 8 ∧ 1 ≤ nw ∧ nw ≤ 8 ∧ 1 ≤ na ∧ na ≤ lsn ∧ ¬ nc = 0) ∨ (0 ≤ nt ∧ nt < 8 ∧ 1 ≤ nw ∧ nw ≤ 8 ∧ 1 ≤ na ∧ na ≤ lsn ∧ nc = 0) := by omega
      rcases hcases with k0 | ⟨k0, k1⟩ | ⟨k0, k1, k2⟩ | ⟨k0, k1, k2, k3⟩ | ⟨k0, k1, k2, k3, k4⟩ | ⟨k0, k1, k2, k3, k4, k5⟩ | ⟨k0, k1, k2, k3, k4, k5, k6⟩ | ⟨k0, k1, k2, k3, k4, k5, k6⟩
      · have HM := Lib.hid (show mayAcc ⟨1, ni, nt, nw, na, nc, nd⟩ lsn = false from decide_eq_false (by dsimp only; omega))
        have hb10_0 : decide (0 ≤ nt) = false := by simp; omega
        have hb10_1 : decide (nt < 0) = true := by simp; omega
        go_enter Try.func50, Try.ntmps50
        go_wp2
        go_ret
        rw [HM0.out, HM.out]
        exact ⟨rfl, (Below.refl _ _).alloc (Nat.le_refl _) _⟩
      · have HM := Lib.hid (show mayAcc ⟨1, ni, nt, nw, na, nc, nd⟩ lsn = false from decide_eq_false (by dsimp only; omega))
        have hb10_0 : decide (0 ≤ nt) = true := by simp; omega
        have hb10_1 : decide (nt < 0) = false := by simp; omega
        have hb11_0 : decide (nt < 8) = false := by simp; omega
        have hb11_1 : decide (8 ≤ nt) = true := by simp; omega
        go_enter Try.func50, Try.ntmps50
        go_wp2
        go_ret
        rw [HM0.out, HM.out]
        exact ⟨rfl, (Below.refl _ _).alloc (Nat.le_refl _) _⟩
      · have HM := Lib.hid (show mayAcc ⟨1, ni, nt, nw, na, nc, nd⟩ lsn = false from decide_eq_false (by dsimp only; omega))
        have hb10_0 : decide (0 ≤ nt) = true := by simp; omega
        have hb10_1 : decide (nt < 0) = false := by simp; omega
        have hb11_0 : decide (nt < 8) = true := by simp; omega
        have hb11_1 : decide (8 ≤ nt) = false := by simp; omega
        have hb12_0 : decide (1 ≤ nw) = false := by simp; omega
        have hb12_1 : decide (nw < 1) = true := by simp; omega
        go_enter Try.func50, Try.ntmps50
        go_wp2
        go_ret
        rw [HM0.out, HM.out]
        exact ⟨rfl, (Below.refl _ _).alloc (Nat.le_refl _) _⟩
      · have HM := Lib.hid (show mayAcc ⟨1, ni, nt, nw, na, nc, nd⟩ lsn = false from decide_eq_false (by dsimp only; omega))
        have hb10_0 : decide (0 ≤ nt) = true := by simp; omega
        have hb10_1 : decide (nt < 0) = false := by simp; omega
        have hb11_0 : decide (nt < 8) = true := by simp; omega
        have hb11_1 : decide (8 ≤ nt) = false := by simp; omega
        have hb12_0 : decide (1 ≤ nw) = true := by simp; omega
        have hb12_1 : decide (nw < 1) = false := by simp; omega
        have hb13_0 : decide (nw ≤ 8) = false := by simp; omega
        have hb13_1 : decide (8 < nw) = true := by simp; omega
        go_enter Try.func50, Try.ntmps50
        go_wp2
        go_ret
        rw [HM0.out, HM.out]
        exact ⟨rfl, (Below.refl _ _).alloc (Nat.le_refl _) _⟩
      · have HM := Lib.hid (show mayAcc ⟨1, ni, nt, nw, na, nc, nd⟩ lsn = false from decide_eq_false (by dsimp only; omega))
        have hb10_0 : decide (0 ≤ nt) = true := by simp; omega
        have hb10_1 : decide (nt < 0) = false := by simp; omega
        have hb11_0 : decide (nt < 8) = true := by simp; omega
        have hb11_1 : decide (8 ≤ nt) = false := by simp; omega
        have hb12_0 : decide (1 ≤ nw) = true := by simp; omega
        have hb12_1 : decide (nw < 1) = false := by simp; omega
        have hb13_0 : decide (nw ≤ 8) = true := by simp; omega
        have hb13_1 : decide (8 < nw) = false := by simp; omega
        have hb14_0 : decide (1 ≤ na) = false := by simp; omega
        have hb14_1 : decide (na < 1) = true := by simp; omega
        go_enter Try.func50, Try.ntmps50
        go_wp2
        go_ret
        rw [HM0.out, HM.out]
        exact ⟨rfl, (Below.refl _ _).alloc (Nat.le_refl _) _⟩
      · have HM := Lib.hid (show mayAcc ⟨1, ni, nt, nw, na, nc, nd⟩ lsn = false from decide_eq_false (by dsimp only; omega))
        have hb10_0 : decide (0 ≤ nt) = true := by simp; omega
        have hb10_1 : decide (nt < 0) = false := by simp; omega
        have hb11_0 : decide (nt < 8) = true := by simp; omega
        have hb11_1 : decide (8 ≤ nt) = false := by simp; omega
        have hb12_0 : decide (1 ≤ nw) = true := by simp; omega
        have hb12_1 : decide (nw < 1) = false := by simp; omega
        have hb13_0 : decide (nw ≤ 8) = true := by simp; omega
        have hb13_1 : decide (8 < nw) = false := by simp; omega
        have hb14_0 : decide (1 ≤ na) = true := by simp; omega
        have hb14_1 : decide (na < 1) = false := by simp; omega
        have hb15_0 : decide (na ≤ lsn) = false := by simp; omega
        have hb15_1 : decide (lsn < na) = true := by simp; omega
        go_enter Try.func50, Try.ntmps50
        go_wp2
        go_ret
        rw [HM0.out, HM.out]
        exact ⟨rfl, (Below.refl _ _).alloc (Nat.le_refl _) _⟩
      · have HM := Lib.hid (show mayAcc ⟨1, ni, nt, nw, na, nc, nd⟩ lsn = false from decide_eq_false (by dsimp only; omega))
        have hb10_0 : decide (0 ≤ nt) = true := by simp; omega
        have hb10_1 : decide (nt < 0) = false := by simp; omega
        have hb11_0 : decide (nt < 8) = true := by simp; omega
        have hb11_1 : decide (8 ≤ nt) = false := by simp; omega
        have hb12_0 : decide (1 ≤ nw) = true := by simp; omega
        have hb12_1 : decide (nw < 1) = false := by simp; omega
        have hb13_0 : decide (nw ≤ 8) = true := by simp; omega
        have hb13_1 : decide (8 < nw) = false := by simp; omega
        have hb14_0 : decide (1 ≤ na) = true := by simp; omega
        have hb14_1 : decide (na < 1) = false := by simp; omega
        have hb15_0 : decide (na ≤ lsn) = true := by simp; omega
        have hb15_1 : decide (lsn < na) = false := by simp; omega
        have hb16_0 : (nc == 0) = false := by simp; omega
        have hb16_1 : (nc != 0) = true := by simp; omega
        clear k6
        go_enter Try.func50, Try.ntmps50
        go_wp2
        go_ret
        rw [HM0.out, HM.out]
        exact ⟨rfl, (Below.refl _ _).alloc (Nat.le_refl _) _⟩
      · have HM := Lib.hid (show mayAcc ⟨1, ni, nt, nw, na, nc, nd⟩ lsn = !nd by cases nd; exact decide_eq_true ⟨k0, k1, k2, k3, k4, k5, k6, rfl⟩; exact decide_eq_false (fun h => by cases h.2.2.2.2.2.2.2))
        have hb10_0 : decide (0 ≤ nt) = true := by simp; omega
        have hb10_1 : decide (nt < 0) = false := by simp; omega
        have hb11_0 : decide (nt < 8) = true := by simp; omega
        have hb11_1 : decide (8 ≤ nt) = false := by simp; omega
        have hb12_0 : decide (1 ≤ nw) = true := by simp; omega
        have hb12_1 : decide (nw < 1) = false := by simp; omega
        have hb13_0 : decide (nw ≤ 8) = true := by simp; omega
        have hb13_1 : decide (8 < nw) = false := by simp; omega
        have hb14_0 : decide (1 ≤ na) = true := by simp; omega
        have hb14_1 : decide (na < 1) = false := by simp; omega
        have hb15_0 : decide (na ≤ lsn) = true := by simp; omega
        have hb15_1 : decide (lsn < na) = false := by simp; omega
        have hb16_0 : (nc == 0) = true := by simp; omega
        have hb16_1 : (nc != 0) = false := by simp; omega
        clear k6
        cases nd
        · go_enter Try.func50, Try.ntmps50
          go_wp2
          go_ret
          rw [HM0.out, HM.out]
          exact ⟨rfl, (Below.refl _ _).alloc (Nat.le_refl _) _⟩
        · go_enter Try.func50, Try.ntmps50
          go_wp2
          go_ret
          rw [HM0.out, HM.out]
          exact ⟨rfl, (Below.refl _ _).alloc (Nat.le_refl _) _⟩
    · by_cases hk2 : nk = 2
      · have HM0 := Lib.hid (show mayNot ⟨nk, ni, nt, nw, na, nc, nd⟩ lsn = mayChk ⟨nk, ni, nt, nw, na, nc, nd⟩ by unfold mayNot; dsimp only; rw [HI.out, if_neg hk1, if_pos hk2]; rfl)
        clear hk1
        subst hk2
        have hcases : (¬ nt = 0) ∨ (nt = 0 ∧ ¬ nw = 0) ∨ (nt = 0 ∧ nw = 0 ∧ ¬ na = 0) ∨ (nt = 0 ∧ nw = 0 ∧ na = 0 ∧ nc < 0) ∨ (nt = 0 ∧ nw = 0 ∧ na = 0 ∧ 0 ≤ nc ∧ 1099511627776 < nc) ∨ (nt = 0 ∧ nw = 0 ∧ na = 0 ∧ 0 ≤ nc ∧ nc ≤ 1099511627776) := by omega
        rcases hcases with k0 | ⟨k0, k1⟩ | ⟨k0, k1, k2⟩ | ⟨k0, k1, k2, k3⟩ | ⟨k0, k1, k2, k3, k4⟩ | ⟨k0, k1, k2, k3, k4⟩
        · have HM := Lib.hid (show mayChk ⟨2, ni, nt, nw, na, nc, nd⟩ = false from decide_eq_false (by dsimp only; omega))
          have hb10_0 : (nt == 0) = false := by simp; omega
          have hb10_1 : (nt != 0) = true := by simp; omega
          clear k0
          go_enter Try.func50, Try.ntmps50
          go_wp2
          go_ret
          rw [HM0.out, HM.out]
          exact ⟨rfl, (Below.refl _ _).alloc (Nat.le_refl _) _⟩
        · have HM := Lib.hid (show mayChk ⟨2, ni, nt, nw, na, nc, nd⟩ = false from decide_eq_false (by dsimp only; omega))
          have hb10_0 : (nt == 0) = true := by simp; omega
          have hb10_1 : (nt != 0) = false := by simp; omega
          have hb11_0 : (nw == 0) = false := by simp; omega
          have hb11_1 : (nw != 0) = true := by simp; omega
          clear k0
          clear k1
          go_enter Try.func50, Try.ntmps50
          go_wp2
          go_ret
          rw [HM0.out, HM.out]
          exact ⟨rfl, (Below.refl _ _).alloc (Nat.le_refl _) _⟩
        · have HM := Lib.hid (show mayChk ⟨2, ni, nt, nw, na, nc, nd⟩ = false from decide_eq_false (by dsimp only; omega))
          have hb10_0 : (nt == 0) = true := by simp; omega
          have hb10_1 : (nt != 0) = false := by simp; omega
          have hb11_0 : (nw == 0) = true := by simp; omega
          have hb11_1 : (nw != 0) = false := by simp; omega
          have hb12_0 : (na == 0) = false := by simp; omega
          have hb12_1 : (na != 0) = true := by simp; omega
          clear k0
          clear k1
          clear k2
          go_enter Try.func50, Try.ntmps50
          go_wp2
          go_ret
          rw [HM0.out, HM.out]
          exact ⟨rfl, (Below.refl _ _).alloc (Nat.le_refl _) _⟩
        · have HM := Lib.hid (show mayChk ⟨2, ni, nt, nw, na, nc, nd⟩ = false from decide_eq_false (by dsimp only; omega))
          have hb10_0 : (nt == 0) = true := by simp; omega
          have hb10_1 : (nt != 0) = false := by simp; omega
          have hb11_0 : (nw == 0) = true := by simp; omega
          have hb11_1 : (nw != 0) = false := by simp; omega
          have hb12_0 : (na == 0) = true := by simp; omega
          have hb12_1 : (na != 0) = false := by simp; omega
          have hb13_0 : decide (0 ≤ nc) = false := by simp; omega
          have hb13_1 : decide (nc < 0) = true := by simp; omega
          clear k0
          clear k1
          clear k2
          go_enter Try.func50, Try.ntmps50
          go_wp2
          go_ret
          rw [HM0.out, HM.out]
          exact ⟨rfl, (Below.refl _ _).alloc (Nat.le_refl _) _⟩
        · have HM := Lib.hid (show mayChk ⟨2, ni, nt, nw, na, nc, nd⟩ = false from decide_eq_false (by dsimp only; omega))
          have hb10_0 : (nt == 0) = true := by simp; omega
          have hb10_1 : (nt != 0) = false := by simp; omega
          have hb11_0 : (nw == 0) = true := by simp; omega
          have hb11_1 : (nw != 0) = false := by simp; omega
          have hb12_0 : (na == 0) = true := by simp; omega
          have hb12_1 : (na != 0) = false := by simp; omega
          have hb13_0 : decide (0 ≤ nc) = true := by simp; omega
          have hb13_1 : decide (nc < 0) = false := by simp; omega
          have hb14_0 : decide (nc ≤ 1099511627776) = false := by simp; omega
          have hb14_1 : decide (1099511627776 < nc) = true := by simp; omega
          clear k0
          clear k1
          clear k2
          go_enter Try.func50, Try.ntmps50
          go_wp2
          go_ret
          rw [HM0.out, HM.out]
          exact ⟨rfl, (Below.refl _ _).alloc (Nat.le_refl _) _⟩
        · have HM := Lib.hid (show mayChk ⟨2, ni, nt, nw, na, nc, nd⟩ = true from decide_eq_true ⟨k0, k1, k2, k3, k4⟩)
          have hb10_0 : (nt == 0) = true := by simp; omega
          have hb10_1 : (nt != 0) = false := by simp; omega
          have hb11_0 : (nw == 0) = true := by simp; omega
          have hb11_1 : (nw != 0) = false := by simp; omega
          have hb12_0 : (na == 0) = true := by simp; omega
          have hb12_1 : (na != 0) = false := by simp; omega
          have hb13_0 : decide (0 ≤ nc) = true := by simp; omega
          have hb13_1 : decide (nc < 0) = false := by simp; omega
          have hb14_0 : decide (nc ≤ 1099511627776) = true := by simp; omega
          have hb14_1 : decide (1099511627776 < nc) = false := by simp; omega
          clear k0
          clear k1
          clear k2
          go_enter Try.func50, Try.ntmps50
          go_wp2
          go_ret
          rw [HM0.out, HM.out]
          exact ⟨rfl, (Below.refl _ _).alloc (Nat.le_refl _) _⟩
      · have HM := Lib.hid (show mayNot ⟨nk, ni, nt, nw, na, nc, nd⟩ lsn = false by unfold mayNot; dsimp only; rw [HI.out, if_neg hk1, if_neg hk2]; rfl)
        have hb7 : (nk == 1) = false := by simpa using hk1
        have hb8 : (nk == 2) = false := by simpa using hk2
        clear hk1 hk2
        go_enter Try.func50, Try.ntmps50
        go_wp2
        go_ret
        rw [HM.out]
        exact ⟨rfl, (Below.refl _ _).alloc (Nat.le_refl _) _⟩

end Go.Proofs.Ytcohheoahdbgmaa
