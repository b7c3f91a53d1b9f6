/- Contracts: which transactions may be: txn.May, the reference's May. -/
import Derived.Test.YtojjeogpggielaaTxn2
set_option linter.unusedVariables false
namespace Go.Proofs.Ytojjeogpggielaa
open Go.RowKit

theorem mayTxn_lo {t : Txn} (h : t.lsn < 1) : mayTxn t = false := by unfold mayTxn; rw [decide_eq_false (by omega)]; rfl
theorem mayTxn_hi {t : Txn} (h : 1099511627776 < t.lsn) : mayTxn t = false := by unfold mayTxn; rw [decide_eq_false (by omega)]; rfl
theorem mayTxn_cli {t : Txn} (h : 1 ≤ t.lsn) (h2 : t.lsn ≤ 1099511627776) (hk : t.kind = 1) : mayTxn t = mayCli t := by unfold mayTxn; rw [decide_eq_true ⟨h, h2⟩, if_pos hk]; rfl
theorem mayTxn_other {t : Txn} (hk : ¬ t.kind = 1) (hk2 : ¬ t.kind = 2) (hk3 : ¬ t.kind = 3) : mayTxn t = false := by unfold mayTxn; rw [if_neg hk, decide_eq_false (p := (t.kind = 2 ∨ t.kind = 3) ∧ _) (by rintro ⟨h | h, _⟩ <;> contradiction), Bool.and_false]
theorem mayTxn_mark {t : Txn} (h : 1 ≤ t.lsn) (h2 : t.lsn ≤ 1099511627776) (hk : t.kind = 2 ∨ t.kind = 3) : mayTxn t = decide (1 ≤ t.mark ∧ t.mark ≤ 1099511627776 ∧ t.changes.length = 0 ∧ t.signals.length = 0) := by
  unfold mayTxn
  rw [decide_eq_true ⟨h, h2⟩, if_neg (by omega)]
  simp [hk]

set_option maxRecDepth 100000 in
set_option maxHeartbeats 8000000 in
theorem may_any (t : Txn) (A : Option Addr) (n c : Nat) (A2 : Option Addr) (n2 c2 : Nat) (w : World) (h : IsSl chgRep w (· < w.heap.size) A n t.changes) (h2 : IsSl strRep w (· < w.heap.size) A2 n2 t.signals) :
    Calls Try.prog 47 #[.agg #[.int .i64 t.lsn, .int .i64 t.kind, .slice A n c, .slice A2 n2 c2, .int .i64 t.mark]] w fun e w' => e = .returned (.bool (mayTxn t)) ∧ Below w.heap.size w w' := by
  have HL := Lib.hid h.len
  have HL2 := Lib.hid h2.len
  by_cases hlo : t.lsn < 1
  · have HM := Lib.hid (mayTxn_lo hlo)
    have hb1 : decide (t.lsn < 1) = true := decide_eq_true hlo
    clear h h2
    obtain ⟨tl, tk, l1, l2, tm⟩ := t
    dsimp only at hlo hb1 ⊢
    go_enter Try.func47, Try.ntmps47
    go_wp2
    go_ret
    rw [HM.out]
    exact ⟨rfl, (Below.refl _ _).alloc (Nat.le_refl _) _⟩
  · have hb1 : decide (t.lsn < 1) = false := decide_eq_false hlo
    by_cases hhi : 1099511627776 < t.lsn
    · have HM := Lib.hid (mayTxn_hi hhi)
      have hb2 : decide (1099511627776 < t.lsn) = true := decide_eq_true hhi
      clear h h2
      obtain ⟨tl, tk, l1, l2, tm⟩ := t
      dsimp only at hlo hb1 hhi hb2 ⊢
      go_enter Try.func47, Try.ntmps47
      go_wp2
      go_ret
      rw [HM.out]
      exact ⟨rfl, (Below.refl _ _).alloc (Nat.le_refl _) _⟩
    · have hb2 : decide (1099511627776 < t.lsn) = false := decide_eq_false hhi
      by_cases hk1 : t.kind = 1
      · have HM := Lib.hid (mayTxn_cli (by omega) (by omega) hk1)
        have H := Lib.hid h
        have H2 := Lib.hid h2
        clear h h2
        obtain ⟨tl, tk, l1, l2, tm⟩ := t
        dsimp only at hlo hb1 hhi hb2 hk1 ⊢
        subst hk1
        go_enter Try.func47, Try.ntmps47
        go_wp2_with (first
          | (go_at_call 90; (with_reducible refine (mayClient_any ⟨tl, 1, l1, l2, tm⟩ A n c A2 n2 c2 _ ((H.out.below ((Below.refl _ _).alloc (Nat.le_refl _) _)).more (by simp)) ((H2.out.below ((Below.refl _ _).alloc (Nat.le_refl _) _)).more (by simp))).mono ?_); rintro e w3 ⟨rfl, bel3⟩)
          | fail)
        go_ret
        rw [HM.out]
        exact ⟨rfl, ((Below.refl _ _).alloc (Nat.le_refl _) _).trans (bel3.mono (by simp))⟩
      · have hk1b : (t.kind == 1) = false := by simpa using hk1
        by_cases hk2 : t.kind = 2 ∨ t.kind = 3
        · have HM := Lib.hid (mayTxn_mark (by omega) (by omega) hk2)
          have hc : t.mark < 1 ∨ (1 ≤ t.mark ∧ 1099511627776 < t.mark) ∨ (1 ≤ t.mark ∧ t.mark ≤ 1099511627776 ∧ ¬ n = 0) ∨ (1 ≤ t.mark ∧ t.mark ≤ 1099511627776 ∧ n = 0 ∧ ¬ n2 = 0) ∨ (1 ≤ t.mark ∧ t.mark ≤ 1099511627776 ∧ n = 0 ∧ n2 = 0) := by omega
          clear h h2
          obtain ⟨tl, tk, l1, l2, tm⟩ := t
          dsimp only at hlo hb1 hhi hb2 hk1 hk1b hk2 hc ⊢
          clear hk1 hk1b
          rcases hk2 with rfl | rfl
          all_goals
            rcases hc with hc1 | ⟨hc1, hc2⟩ | ⟨hc1, hc2, hc3⟩ | ⟨hc1, hc2, hc3, hc4⟩ | ⟨hc1, hc2, hc3, hc4⟩
            · have HF := Lib.hid (show decide (1 ≤ tm ∧ tm ≤ 1099511627776 ∧ l1.length = 0 ∧ l2.length = 0) = false from decide_eq_false (by omega))
              have hd1 : decide (1 ≤ tm) = false := decide_eq_false (by omega)
              go_enter Try.func47, Try.ntmps47
              go_wp2
              go_ret
              rw [HM.out, HF.out]
              exact ⟨rfl, (Below.refl _ _).alloc (Nat.le_refl _) _⟩
            · have HF := Lib.hid (show decide (1 ≤ tm ∧ tm ≤ 1099511627776 ∧ l1.length = 0 ∧ l2.length = 0) = false from decide_eq_false (by omega))
              have hd1 : decide (1 ≤ tm) = true := decide_eq_true (by omega)
              have hd2 : decide (tm ≤ 1099511627776) = false := decide_eq_false (by omega)
              go_enter Try.func47, Try.ntmps47
              go_wp2
              go_ret
              rw [HM.out, HF.out]
              exact ⟨rfl, (Below.refl _ _).alloc (Nat.le_refl _) _⟩
            · have HF := Lib.hid (show decide (1 ≤ tm ∧ tm ≤ 1099511627776 ∧ l1.length = 0 ∧ l2.length = 0) = false from decide_eq_false (by have := HL.out; dsimp only at this; omega))
              have hd1 : decide (1 ≤ tm) = true := decide_eq_true (by omega)
              have hd2 : decide (tm ≤ 1099511627776) = true := decide_eq_true (by omega)
              have hd3 : ((n : Int) == 0) = false := by simp; omega
              go_enter Try.func47, Try.ntmps47
              go_wp2
              go_ret
              rw [HM.out, HF.out]
              exact ⟨rfl, (Below.refl _ _).alloc (Nat.le_refl _) _⟩
            · have HF := Lib.hid (show decide (1 ≤ tm ∧ tm ≤ 1099511627776 ∧ l1.length = 0 ∧ l2.length = 0) = false from decide_eq_false (by have := HL2.out; dsimp only at this; omega))
              have hd1 : decide (1 ≤ tm) = true := decide_eq_true (by omega)
              have hd2 : decide (tm ≤ 1099511627776) = true := decide_eq_true (by omega)
              have hd4 : ((n2 : Int) == 0) = false := by simp; omega
              subst hc3
              go_enter Try.func47, Try.ntmps47
              go_wp2
              go_ret
              rw [HM.out, HF.out]
              exact ⟨rfl, (Below.refl _ _).alloc (Nat.le_refl _) _⟩
            · have HF := Lib.hid (show decide (1 ≤ tm ∧ tm ≤ 1099511627776 ∧ l1.length = 0 ∧ l2.length = 0) = true from decide_eq_true (by have := HL.out; have := HL2.out; dsimp only at *; omega))
              have hd1 : decide (1 ≤ tm) = true := decide_eq_true (by omega)
              have hd2 : decide (tm ≤ 1099511627776) = true := decide_eq_true (by omega)
              subst hc3 hc4
              go_enter Try.func47, Try.ntmps47
              go_wp2
              go_ret
              rw [HM.out, HF.out]
              exact ⟨rfl, (Below.refl _ _).alloc (Nat.le_refl _) _⟩
        · have HM := Lib.hid (mayTxn_other hk1 (fun h => hk2 (.inl h)) (fun h => hk2 (.inr h)))
          have hk2b : (t.kind == 2) = false := by simp; omega
          have hk3b : (t.kind == 3) = false := by simp; omega
          clear h h2 hk1 hk2
          obtain ⟨tl, tk, l1, l2, tm⟩ := t
          dsimp only at hlo hb1 hhi hb2 hk1b hk2b hk3b ⊢
          go_enter Try.func47, Try.ntmps47
          go_wp2
          go_ret
          rw [HM.out]
          exact ⟨rfl, (Below.refl _ _).alloc (Nat.le_refl _) _⟩

end Go.Proofs.Ytojjeogpggielaa
