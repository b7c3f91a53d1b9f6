/- Contracts: which changes, which transactions may be: txn's and the reference's. -/
import Derived.Test.YtojjeogpggielaaPce2
import Derived.Test.YtojjeogpggielaaTypesT
set_option linter.unusedVariables false
namespace Go.Proofs.Ytojjeogpggielaa
open Go.RowKit

/-- May a change be, among so many tables? -/
def mayChg (c : Chg) (t : Int) : Bool := decide (0 ≤ c.table ∧ c.table < t ∧ 1 ≤ c.key ∧ c.key ≤ 1099511627776 ∧ c.val.size ≤ 32 ∧ (c.gone = false ∨ c.val.size = 0))

theorem str_nil (s : ByteArray) (h : s.size = 0) : s = ⟨#[]⟩ := by
  obtain ⟨⟨l⟩⟩ := s
  cases l with
  | nil => rfl
  | cons a t => simp [ByteArray.size] at h

set_option maxRecDepth 100000 in
set_option maxHeartbeats 4000000 in
theorem mayChange_any (c : Chg) (t : Int) (w : World) :
    Calls Try.prog 50 #[.agg #[.int .i64 c.table, .int .i64 c.key, .bool c.gone, .string c.val], .int .i64 t] w fun e w' => e = .returned (.bool (mayChg c t)) ∧ Below w.heap.size w w' := by
  obtain ⟨ct, ck, cg, cv⟩ := c
  have hcases : ct < 0 ∨ (0 ≤ ct ∧ t ≤ ct) ∨ (0 ≤ ct ∧ ct < t ∧ ck < 1) ∨ (0 ≤ ct ∧ ct < t ∧ 1 ≤ ck ∧ 1099511627776 < ck) ∨ (0 ≤ ct ∧ ct < t ∧ 1 ≤ ck ∧ ck ≤ 1099511627776 ∧ 32 < cv.size) ∨ (0 ≤ ct ∧ ct < t ∧ 1 ≤ ck ∧ ck ≤ 1099511627776 ∧ cv.size ≤ 32 ∧ cv.size = 0) ∨ (0 ≤ ct ∧ ct < t ∧ 1 ≤ ck ∧ ck ≤ 1099511627776 ∧ cv.size ≤ 32 ∧ ¬ cv.size = 0) := by omega
  rcases hcases with h1 | ⟨h1, h2⟩ | ⟨h1, h2, h3⟩ | ⟨h1, h2, h3, h4⟩ | ⟨h1, h2, h3, h4, h5⟩ | ⟨h1, h2, h3, h4, h5, h6⟩ | ⟨h1, h2, h3, h4, h5, h6⟩
  · have HM := Lib.hid (show mayChg ⟨ct, ck, cg, cv⟩ t = false from decide_eq_false (by dsimp only; omega))
    go_enter Try.func50, Try.ntmps50
    go_wp2
    go_ret
    rw [HM.out]
    exact ⟨rfl, (Below.refl _ _).alloc (Nat.le_refl _) _⟩
  · have HM := Lib.hid (show mayChg ⟨ct, ck, cg, cv⟩ t = false from decide_eq_false (by dsimp only; omega))
    have hb3 : decide (ct < 0) = false := by simp; omega
    have hb4 : decide (0 ≤ ct) = true := by simp; omega
    have hb1 : decide (t ≤ ct) = true := by simp; omega
    have hb2 : decide (ct < t) = false := by simp; omega
    go_enter Try.func50, Try.ntmps50
    go_wp2
    go_ret
    rw [HM.out]
    exact ⟨rfl, (Below.refl _ _).alloc (Nat.le_refl _) _⟩
  · have HM := Lib.hid (show mayChg ⟨ct, ck, cg, cv⟩ t = false from decide_eq_false (by dsimp only; omega))
    have hb3 : decide (ct < 0) = false := by simp; omega
    have hb4 : decide (0 ≤ ct) = true := by simp; omega
    have hb5 : decide (ck < 1) = true := by simp; omega
    have hb6 : decide (1 ≤ ck) = false := by simp; omega
    have hb1 : decide (t ≤ ct) = false := by simp; omega
    have hb2 : decide (ct < t) = true := by simp; omega
    go_enter Try.func50, Try.ntmps50
    go_wp2
    go_ret
    rw [HM.out]
    exact ⟨rfl, (Below.refl _ _).alloc (Nat.le_refl _) _⟩
  · have HM := Lib.hid (show mayChg ⟨ct, ck, cg, cv⟩ t = false from decide_eq_false (by dsimp only; omega))
    have hb3 : decide (ct < 0) = false := by simp; omega
    have hb4 : decide (0 ≤ ct) = true := by simp; omega
    have hb5 : decide (ck < 1) = false := by simp; omega
    have hb6 : decide (1 ≤ ck) = true := by simp; omega
    have hb7 : decide (1099511627776 < ck) = true := by simp; omega
    have hb8 : decide (ck ≤ 1099511627776) = false := by simp; omega
    have hb1 : decide (t ≤ ct) = false := by simp; omega
    have hb2 : decide (ct < t) = true := by simp; omega
    go_enter Try.func50, Try.ntmps50
    go_wp2
    go_ret
    rw [HM.out]
    exact ⟨rfl, (Below.refl _ _).alloc (Nat.le_refl _) _⟩
  · have HM := Lib.hid (show mayChg ⟨ct, ck, cg, cv⟩ t = false from decide_eq_false (by dsimp only; omega))
    have hb3 : decide (ct < 0) = false := by simp; omega
    have hb4 : decide (0 ≤ ct) = true := by simp; omega
    have hb5 : decide (ck < 1) = false := by simp; omega
    have hb6 : decide (1 ≤ ck) = true := by simp; omega
    have hb7 : decide (1099511627776 < ck) = false := by simp; omega
    have hb8 : decide (ck ≤ 1099511627776) = true := by simp; omega
    have hb9 : decide ((cv.size : Int) ≤ 32) = false := by simp; omega
    have hb10 : decide (cv.size ≤ 32) = false := by simp; omega
    have hb1 : decide (t ≤ ct) = false := by simp; omega
    have hb2 : decide (ct < t) = true := by simp; omega
    go_enter Try.func50, Try.ntmps50
    go_wp2
    go_ret
    rw [HM.out]
    exact ⟨rfl, (Below.refl _ _).alloc (Nat.le_refl _) _⟩
  · obtain rfl := str_nil cv h6
    have hb3 : decide (ct < 0) = false := by simp; omega
    have hb4 : decide (0 ≤ ct) = true := by simp; omega
    have hb5 : decide (ck < 1) = false := by simp; omega
    have hb6 : decide (1 ≤ ck) = true := by simp; omega
    have hb7 : decide (1099511627776 < ck) = false := by simp; omega
    have hb8 : decide (ck ≤ 1099511627776) = true := by simp; omega
    have hb1 : decide (t ≤ ct) = false := by simp; omega
    have hb2 : decide (ct < t) = true := by simp; omega
    have HM := Lib.hid (show mayChg ⟨ct, ck, cg, ⟨#[]⟩⟩ t = true from decide_eq_true ⟨h1, h2, h3, h4, h5, .inr h6⟩)
    clear h5 h6
    cases cg
    · go_enter Try.func50, Try.ntmps50
      go_wp2
      go_ret
      rw [HM.out]
      exact ⟨rfl, (Below.refl _ _).alloc (Nat.le_refl _) _⟩
    · go_enter Try.func50, Try.ntmps50
      go_wp2
      go_ret
      rw [HM.out]
      exact ⟨rfl, (Below.refl _ _).alloc (Nat.le_refl _) _⟩
  · have h7 : cv.toList.isEmpty = false := by rw [str_empty]; simpa using h6
    have hb3 : decide (ct < 0) = false := by simp; omega
    have hb4 : decide (0 ≤ ct) = true := by simp; omega
    have hb5 : decide (ck < 1) = false := by simp; omega
    have hb6 : decide (1 ≤ ck) = true := by simp; omega
    have hb7 : decide (1099511627776 < ck) = false := by simp; omega
    have hb8 : decide (ck ≤ 1099511627776) = true := by simp; omega
    have hb9 : decide ((cv.size : Int) ≤ 32) = true := by simp; omega
    have hb10 : decide (cv.size ≤ 32) = true := by simp; omega
    have hb1 : decide (t ≤ ct) = false := by simp; omega
    have hb2 : decide (ct < t) = true := by simp; omega
    cases cg
    · have HM := Lib.hid (show mayChg ⟨ct, ck, false, cv⟩ t = true from decide_eq_true ⟨h1, h2, h3, h4, h5, .inl rfl⟩)
      clear h6
      go_enter Try.func50, Try.ntmps50
      go_wp2
      go_ret
      rw [HM.out]
      exact ⟨rfl, (Below.refl _ _).alloc (Nat.le_refl _) _⟩
    · have HM := Lib.hid (show mayChg ⟨ct, ck, true, cv⟩ t = false from decide_eq_false (by rintro ⟨_, _, _, _, _, h | h⟩ <;> first | cases h | exact h6 h))
      clear h6
      go_enter Try.func50, Try.ntmps50
      go_wp2
      go_ret
      rw [HM.out]
      exact ⟨rfl, (Below.refl _ _).alloc (Nat.le_refl _) _⟩

set_option maxRecDepth 100000 in
set_option maxHeartbeats 4000000 in
theorem refmayChange_any (c : Chg) (t : Int) (w : World) :
    Calls Try.prog 51 #[.agg #[.int .i64 c.table, .int .i64 c.key, .bool c.gone, .string c.val], .int .i64 t] w fun e w' => e = .returned (.bool (mayChg c t)) ∧ Below w.heap.size w w' := by
  obtain ⟨ct, ck, cg, cv⟩ := c
  have hcases : ct < 0 ∨ (0 ≤ ct ∧ t ≤ ct) ∨ (0 ≤ ct ∧ ct < t ∧ ck < 1) ∨ (0 ≤ ct ∧ ct < t ∧ 1 ≤ ck ∧ 1099511627776 < ck) ∨ (0 ≤ ct ∧ ct < t ∧ 1 ≤ ck ∧ ck ≤ 1099511627776 ∧ 32 < cv.size) ∨ (0 ≤ ct ∧ ct < t ∧ 1 ≤ ck ∧ ck ≤ 1099511627776 ∧ cv.size ≤ 32 ∧ cv.size = 0) ∨ (0 ≤ ct ∧ ct < t ∧ 1 ≤ ck ∧ ck ≤ 1099511627776 ∧ cv.size ≤ 32 ∧ ¬ cv.size = 0) := by omega
  rcases hcases with h1 | ⟨h1, h2⟩ | ⟨h1, h2, h3⟩ | ⟨h1, h2, h3, h4⟩ | ⟨h1, h2, h3, h4, h5⟩ | ⟨h1, h2, h3, h4, h5, h6⟩ | ⟨h1, h2, h3, h4, h5, h6⟩
  · have HM := Lib.hid (show mayChg ⟨ct, ck, cg, cv⟩ t = false from decide_eq_false (by dsimp only; omega))
    go_enter Try.func51, Try.ntmps51
    go_wp2
    go_ret
    rw [HM.out]
    exact ⟨rfl, (Below.refl _ _).alloc (Nat.le_refl _) _⟩
  · have HM := Lib.hid (show mayChg ⟨ct, ck, cg, cv⟩ t = false from decide_eq_false (by dsimp only; omega))
    have hb3 : decide (ct < 0) = false := by simp; omega
    have hb4 : decide (0 ≤ ct) = true := by simp; omega
    have hb1 : decide (t ≤ ct) = true := by simp; omega
    have hb2 : decide (ct < t) = false := by simp; omega
    go_enter Try.func51, Try.ntmps51
    go_wp2
    go_ret
    rw [HM.out]
    exact ⟨rfl, (Below.refl _ _).alloc (Nat.le_refl _) _⟩
  · have HM := Lib.hid (show mayChg ⟨ct, ck, cg, cv⟩ t = false from decide_eq_false (by dsimp only; omega))
    have hb3 : decide (ct < 0) = false := by simp; omega
    have hb4 : decide (0 ≤ ct) = true := by simp; omega
    have hb5 : decide (ck < 1) = true := by simp; omega
    have hb6 : decide (1 ≤ ck) = false := by simp; omega
    have hb1 : decide (t ≤ ct) = false := by simp; omega
    have hb2 : decide (ct < t) = true := by simp; omega
    go_enter Try.func51, Try.ntmps51
    go_wp2
    go_ret
    rw [HM.out]
    exact ⟨rfl, (Below.refl _ _).alloc (Nat.le_refl _) _⟩
  · have HM := Lib.hid (show mayChg ⟨ct, ck, cg, cv⟩ t = false from decide_eq_false (by dsimp only; omega))
    have hb3 : decide (ct < 0) = false := by simp; omega
    have hb4 : decide (0 ≤ ct) = true := by simp; omega
    have hb5 : decide (ck < 1) = false := by simp; omega
    have hb6 : decide (1 ≤ ck) = true := by simp; omega
    have hb7 : decide (1099511627776 < ck) = true := by simp; omega
    have hb8 : decide (ck ≤ 1099511627776) = false := by simp; omega
    have hb1 : decide (t ≤ ct) = false := by simp; omega
    have hb2 : decide (ct < t) = true := by simp; omega
    go_enter Try.func51, Try.ntmps51
    go_wp2
    go_ret
    rw [HM.out]
    exact ⟨rfl, (Below.refl _ _).alloc (Nat.le_refl _) _⟩
  · have HM := Lib.hid (show mayChg ⟨ct, ck, cg, cv⟩ t = false from decide_eq_false (by dsimp only; omega))
    have hb3 : decide (ct < 0) = false := by simp; omega
    have hb4 : decide (0 ≤ ct) = true := by simp; omega
    have hb5 : decide (ck < 1) = false := by simp; omega
    have hb6 : decide (1 ≤ ck) = true := by simp; omega
    have hb7 : decide (1099511627776 < ck) = false := by simp; omega
    have hb8 : decide (ck ≤ 1099511627776) = true := by simp; omega
    have hb9 : decide ((cv.size : Int) ≤ 32) = false := by simp; omega
    have hb10 : decide (cv.size ≤ 32) = false := by simp; omega
    have hb1 : decide (t ≤ ct) = false := by simp; omega
    have hb2 : decide (ct < t) = true := by simp; omega
    go_enter Try.func51, Try.ntmps51
    go_wp2
    go_ret
    rw [HM.out]
    exact ⟨rfl, (Below.refl _ _).alloc (Nat.le_refl _) _⟩
  · obtain rfl := str_nil cv h6
    have hb3 : decide (ct < 0) = false := by simp; omega
    have hb4 : decide (0 ≤ ct) = true := by simp; omega
    have hb5 : decide (ck < 1) = false := by simp; omega
    have hb6 : decide (1 ≤ ck) = true := by simp; omega
    have hb7 : decide (1099511627776 < ck) = false := by simp; omega
    have hb8 : decide (ck ≤ 1099511627776) = true := by simp; omega
    have hb1 : decide (t ≤ ct) = false := by simp; omega
    have hb2 : decide (ct < t) = true := by simp; omega
    have HM := Lib.hid (show mayChg ⟨ct, ck, cg, ⟨#[]⟩⟩ t = true from decide_eq_true ⟨h1, h2, h3, h4, h5, .inr h6⟩)
    clear h5 h6
    cases cg
    · go_enter Try.func51, Try.ntmps51
      go_wp2
      go_ret
      rw [HM.out]
      exact ⟨rfl, (Below.refl _ _).alloc (Nat.le_refl _) _⟩
    · go_enter Try.func51, Try.ntmps51
      go_wp2
      go_ret
      rw [HM.out]
      exact ⟨rfl, (Below.refl _ _).alloc (Nat.le_refl _) _⟩
  · have h7 : cv.toList.isEmpty = false := by rw [str_empty]; simpa using h6
    have hb3 : decide (ct < 0) = false := by simp; omega
    have hb4 : decide (0 ≤ ct) = true := by simp; omega
    have hb5 : decide (ck < 1) = false := by simp; omega
    have hb6 : decide (1 ≤ ck) = true := by simp; omega
    have hb7 : decide (1099511627776 < ck) = false := by simp; omega
    have hb8 : decide (ck ≤ 1099511627776) = true := by simp; omega
    have hb9 : decide ((cv.size : Int) ≤ 32) = true := by simp; omega
    have hb10 : decide (cv.size ≤ 32) = true := by simp; omega
    have hb1 : decide (t ≤ ct) = false := by simp; omega
    have hb2 : decide (ct < t) = true := by simp; omega
    cases cg
    · have HM := Lib.hid (show mayChg ⟨ct, ck, false, cv⟩ t = true from decide_eq_true ⟨h1, h2, h3, h4, h5, .inl rfl⟩)
      clear h6
      go_enter Try.func51, Try.ntmps51
      go_wp2
      go_ret
      rw [HM.out]
      exact ⟨rfl, (Below.refl _ _).alloc (Nat.le_refl _) _⟩
    · have HM := Lib.hid (show mayChg ⟨ct, ck, true, cv⟩ t = false from decide_eq_false (by rintro ⟨_, _, _, _, _, h | h⟩ <;> first | cases h | exact h6 h))
      clear h6
      go_enter Try.func51, Try.ntmps51
      go_wp2
      go_ret
      rw [HM.out]
      exact ⟨rfl, (Below.refl _ _).alloc (Nat.le_refl _) _⟩

/-- May a transaction be? -/
def mayCli (t : Txn) : Bool := decide (t.mark = 0 ∧ t.changes.length ≤ 16 ∧ t.signals.length ≤ 2) && (t.changes.all (mayChg · 8) && t.signals.all (fun s => decide (s.size ≤ 40)))
def mayTxn (t : Txn) : Bool :=
  decide (1 ≤ t.lsn ∧ t.lsn ≤ 1099511627776) && (if t.kind = 1 then mayCli t else decide ((t.kind = 2 ∨ t.kind = 3) ∧ 1 ≤ t.mark ∧ t.mark ≤ 1099511627776 ∧ t.changes.length = 0 ∧ t.signals.length = 0))
end Go.Proofs.Ytojjeogpggielaa
