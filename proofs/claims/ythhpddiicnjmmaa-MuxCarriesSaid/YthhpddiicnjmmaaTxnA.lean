/- Contracts: which changes, which transactions may be: txn's and the reference's. Contracts: which transactions may be: txn.mayClient. Contracts: which transactions may be: txn.May, the reference's May. Contract: which transactions may be: the reference's May. -/
import Derived.Test.YthhpddiicnjmmaaPce2
import Derived.Test.YthhpddiicnjmmaaTypesM
set_option linter.unusedVariables false
namespace Go.Proofs.Ythhpddiicnjmmaa
open Go.RowKit

/-- May a change be, among so many tables? -/
def mayChg (c : Chg) (t : Int) : Bool := decide (0 ≤ c.table ∧ c.table < t ∧ 1 ≤ c.key ∧ c.key ≤ 1099511627776 ∧ c.val.size ≤ 32 ∧ (c.gone = false ∨ c.val.size = 0))

theorem str_nil (s : ByteArray) (h : s.size = 0) : s = ⟨#[]⟩ := by
  obtain ⟨⟨l⟩⟩ := s
  cases l with
  | nil => rfl
  | cons a t => simp [ByteArray.size] at h

set_option maxRecDepth 100000 in
set_option maxHeartbeats 4000000 in
theorem mayChange_any (c : Chg) (t : Int) (w : World) :
    Calls Try.prog 154 #[.agg #[.int .i64 c.table, .int .i64 c.key, .bool c.gone, .string c.val], .int .i64 t] w fun e w' => e = .returned (.bool (mayChg c t)) ∧ Below w.heap.size w w' := by
  obtain ⟨ct, ck, cg, cv⟩ := c
  have hcases : ct < 0 ∨ (0 ≤ ct ∧ t ≤ ct) ∨ (0 ≤ ct ∧ ct < t ∧ ck < 1) ∨ (0 ≤ ct ∧ ct < t ∧ 1 ≤ ck ∧ 1099511627776 < ck) ∨ (0 ≤ ct ∧ ct < t ∧ 1 ≤ ck ∧ ck ≤ 1099511627776 ∧ 32 < cv.size) ∨ (0 ≤ ct ∧ ct < t ∧ 1 ≤ ck ∧ ck ≤ 1099511627776 ∧ cv.size ≤ 32 ∧ cv.size = 0) ∨ (0 ≤ ct ∧ ct < t ∧ 1 ≤ ck ∧ ck ≤ 1099511627776 ∧ cv.size ≤ 32 ∧ ¬ cv.size = 0) := by omega
  rcases hcases with h1 | ⟨h1, h2⟩ | ⟨h1, h2, h3⟩ | ⟨h1, h2, h3, h4⟩ | ⟨h1, h2, h3, h4, h5⟩ | ⟨h1, h2, h3, h4, h5, h6⟩ | ⟨h1, h2, h3, h4, h5, h6⟩
  · have HM := Lib.hid (show mayChg ⟨ct, ck, cg, cv⟩ t = false from decide_eq_false (by dsimp only; omega))
    go_enter Try.func154, Try.ntmps154
    go_wp2
    go_ret
    rw [HM.out]
    exact ⟨rfl, (Below.refl _ _).alloc (Nat.le_refl _) _⟩
  · have HM := Lib.hid (show mayChg ⟨ct, ck, cg, cv⟩ t = false from decide_eq_false (by dsimp only; omega))
    have hb3 : decide (ct < 0) = false := by simp; omega
    have hb4 : decide (0 ≤ ct) = true := by simp; omega
    have hb1 : decide (t ≤ ct) = true := by simp; omega
    have hb2 : decide (ct < t) = false := by simp; omega
    go_enter Try.func154, Try.ntmps154
    go_wp2
    go_ret
    rw [HM.out]
    exact ⟨rfl, (Below.refl _ _).alloc (Nat.le_refl _) _⟩
  · have HM := Lib.hid (show mayChg ⟨ct, ck, cg, cv⟩ t = false from decide_eq_false (by dsimp only; omega))
    have hb3 : decide (ct < 0) = false := by simp; omega
    have hb4 : decide (0 ≤ ct) = true := by simp; omega
    have hb5 : decide (ck < 1) = true := by simp; omega
    have hb6 : decide (1 ≤ ck) = false := by simp; omega
    have hb1 : decide (t ≤ ct) = false := by simp; omega
    have hb2 : decide (ct < t) = true := by simp; omega
    go_enter Try.func154, Try.ntmps154
    go_wp2
    go_ret
    rw [HM.out]
    exact ⟨rfl, (Below.refl _ _).alloc (Nat.le_refl _) _⟩
  · have HM := Lib.hid (show mayChg ⟨ct, ck, cg, cv⟩ t = false from decide_eq_false (by dsimp only; omega))
    have hb3 : decide (ct < 0) = false := by simp; omega
    have hb4 : decide (0 ≤ ct) = true := by simp; omega
    have hb5 : decide (ck < 1) = false := by simp; omega
    have hb6 : decide (1 ≤ ck) = true := by simp; omega
    have hb7 : decide (1099511627776 < ck) = true := by simp; omega
    have hb8 : decide (ck ≤ 1099511627776) = false := by simp; omega
    have hb1 : decide (t ≤ ct) = false := by simp; omega
    have hb2 : decide (ct < t) = true := by simp; omega
    go_enter Try.func154, Try.ntmps154
    go_wp2
    go_ret
    rw [HM.out]
    exact ⟨rfl, (Below.refl _ _).alloc (Nat.le_refl _) _⟩
  · have HM := Lib.hid (show mayChg ⟨ct, ck, cg, cv⟩ t = false from decide_eq_false (by dsimp only; omega))
    have hb3 : decide (ct < 0) = false := by simp; omega
    have hb4 : decide (0 ≤ ct) = true := by simp; omega
    have hb5 : decide (ck < 1) = false := by simp; omega
    have hb6 : decide (1 ≤ ck) = true := by simp; omega
    have hb7 : decide (1099511627776 < ck) = false := by simp; omega
    have hb8 : decide (ck ≤ 1099511627776) = true := by simp; omega
    have hb9 : decide ((cv.size : Int) ≤ 32) = false := by simp; omega
    have hb10 : decide (cv.size ≤ 32) = false := by simp; omega
    have hb1 : decide (t ≤ ct) = false := by simp; omega
    have hb2 : decide (ct < t) = true := by simp; omega
    go_enter Try.func154, Try.ntmps154
    go_wp2
    go_ret
    rw [HM.out]
    exact ⟨rfl, (Below.refl _ _).alloc (Nat.le_refl _) _⟩
  · obtain rfl := str_nil cv h6
    have hb3 : decide (ct < 0) = false := by simp; omega
    have hb4 : decide (0 ≤ ct) = true := by simp; omega
    have hb5 : decide (ck < 1) = false := by simp; omega
    have hb6 : decide (1 ≤ ck) = true := by simp; omega
    have hb7 : decide (1099511627776 < ck) = false := by simp; omega
    have hb8 : decide (ck ≤ 1099511627776) = true := by simp; omega
    have hb1 : decide (t ≤ ct) = false := by simp; omega
    have hb2 : decide (ct < t) = true := by simp; omega
    have HM := Lib.hid (show mayChg ⟨ct, ck, cg, ⟨#[]⟩⟩ t = true from decide_eq_true ⟨h1, h2, h3, h4, h5, .inr h6⟩)
    clear h5 h6
    cases cg
    · go_enter Try.func154, Try.ntmps154
      go_wp2
      go_ret
      rw [HM.out]
      exact ⟨rfl, (Below.refl _ _).alloc (Nat.le_refl _) _⟩
    · go_enter Try.func154, Try.ntmps154
      go_wp2
      go_ret
      rw [HM.out]
      exact ⟨rfl, (Below.refl _ _).alloc (Nat.le_refl _) _⟩
  · have h7 : cv.toList.isEmpty = false := by rw [str_empty]; simpa using h6
    have hb3 : decide (ct < 0) = false := by simp; omega
    have hb4 : decide (0 ≤ ct) = true := by simp; omega
    have hb5 : decide (ck < 1) = false := by simp; omega
    have hb6 : decide (1 ≤ ck) = true := by simp; omega
    have hb7 : decide (1099511627776 < ck) = false := by simp; omega
    have hb8 : decide (ck ≤ 1099511627776) = true := by simp; omega
    have hb9 : decide ((cv.size : Int) ≤ 32) = true := by simp; omega
    have hb10 : decide (cv.size ≤ 32) = true := by simp; omega
    have hb1 : decide (t ≤ ct) = false := by simp; omega
    have hb2 : decide (ct < t) = true := by simp; omega
    cases cg
    · have HM := Lib.hid (show mayChg ⟨ct, ck, false, cv⟩ t = true from decide_eq_true ⟨h1, h2, h3, h4, h5, .inl rfl⟩)
      clear h6
      go_enter Try.func154, Try.ntmps154
      go_wp2
      go_ret
      rw [HM.out]
      exact ⟨rfl, (Below.refl _ _).alloc (Nat.le_refl _) _⟩
    · have HM := Lib.hid (show mayChg ⟨ct, ck, true, cv⟩ t = false from decide_eq_false (by rintro ⟨_, _, _, _, _, h | h⟩ <;> first | cases h | exact h6 h))
      clear h6
      go_enter Try.func154, Try.ntmps154
      go_wp2
      go_ret
      rw [HM.out]
      exact ⟨rfl, (Below.refl _ _).alloc (Nat.le_refl _) _⟩

set_option maxRecDepth 100000 in
set_option maxHeartbeats 4000000 in
theorem refmayChange_any (c : Chg) (t : Int) (w : World) :
    Calls Try.prog 142 #[.agg #[.int .i64 c.table, .int .i64 c.key, .bool c.gone, .string c.val], .int .i64 t] w fun e w' => e = .returned (.bool (mayChg c t)) ∧ Below w.heap.size w w' := by
  obtain ⟨ct, ck, cg, cv⟩ := c
  have hcases : ct < 0 ∨ (0 ≤ ct ∧ t ≤ ct) ∨ (0 ≤ ct ∧ ct < t ∧ ck < 1) ∨ (0 ≤ ct ∧ ct < t ∧ 1 ≤ ck ∧ 1099511627776 < ck) ∨ (0 ≤ ct ∧ ct < t ∧ 1 ≤ ck ∧ ck ≤ 1099511627776 ∧ 32 < cv.size) ∨ (0 ≤ ct ∧ ct < t ∧ 1 ≤ ck ∧ ck ≤ 1099511627776 ∧ cv.size ≤ 32 ∧ cv.size = 0) ∨ (0 ≤ ct ∧ ct < t ∧ 1 ≤ ck ∧ ck ≤ 1099511627776 ∧ cv.size ≤ 32 ∧ ¬ cv.size = 0) := by omega
  rcases hcases with h1 | ⟨h1, h2⟩ | ⟨h1, h2, h3⟩ | ⟨h1, h2, h3, h4⟩ | ⟨h1, h2, h3, h4, h5⟩ | ⟨h1, h2, h3, h4, h5, h6⟩ | ⟨h1, h2, h3, h4, h5, h6⟩
  · have HM := Lib.hid (show mayChg ⟨ct, ck, cg, cv⟩ t = false from decide_eq_false (by dsimp only; omega))
    go_enter Try.func142, Try.ntmps142
    go_wp2
    go_ret
    rw [HM.out]
    exact ⟨rfl, (Below.refl _ _).alloc (Nat.le_refl _) _⟩
  · have HM := Lib.hid (show mayChg ⟨ct, ck, cg, cv⟩ t = false from decide_eq_false (by dsimp only; omega))
    have hb3 : decide (ct < 0) = false := by simp; omega
    have hb4 : decide (0 ≤ ct) = true := by simp; omega
    have hb1 : decide (t ≤ ct) = true := by simp; omega
    have hb2 : decide (ct < t) = false := by simp; omega
    go_enter Try.func142, Try.ntmps142
    go_wp2
    go_ret
    rw [HM.out]
    exact ⟨rfl, (Below.refl _ _).alloc (Nat.le_refl _) _⟩
  · have HM := Lib.hid (show mayChg ⟨ct, ck, cg, cv⟩ t = false from decide_eq_false (by dsimp only; omega))
    have hb3 : decide (ct < 0) = false := by simp; omega
    have hb4 : decide (0 ≤ ct) = true := by simp; omega
    have hb5 : decide (ck < 1) = true := by simp; omega
    have hb6 : decide (1 ≤ ck) = false := by simp; omega
    have hb1 : decide (t ≤ ct) = false := by simp; omega
    have hb2 : decide (ct < t) = true := by simp; omega
    go_enter Try.func142, Try.ntmps142
    go_wp2
    go_ret
    rw [HM.out]
    exact ⟨rfl, (Below.refl _ _).alloc (Nat.le_refl _) _⟩
  · have HM := Lib.hid (show mayChg ⟨ct, ck, cg, cv⟩ t = false from decide_eq_false (by dsimp only; omega))
    have hb3 : decide (ct < 0) = false := by simp; omega
    have hb4 : decide (0 ≤ ct) = true := by simp; omega
    have hb5 : decide (ck < 1) = false := by simp; omega
    have hb6 : decide (1 ≤ ck) = true := by simp; omega
    have hb7 : decide (1099511627776 < ck) = true := by simp; omega
    have hb8 : decide (ck ≤ 1099511627776) = false := by simp; omega
    have hb1 : decide (t ≤ ct) = false := by simp; omega
    have hb2 : decide (ct < t) = true := by simp; omega
    go_enter Try.func142, Try.ntmps142
    go_wp2
    go_ret
    rw [HM.out]
    exact ⟨rfl, (Below.refl _ _).alloc (Nat.le_refl _) _⟩
  · have HM := Lib.hid (show mayChg ⟨ct, ck, cg, cv⟩ t = false from decide_eq_false (by dsimp only; omega))
    have hb3 : decide (ct < 0) = false := by simp; omega
    have hb4 : decide (0 ≤ ct) = true := by simp; omega
    have hb5 : decide (ck < 1) = false := by simp; omega
    have hb6 : decide (1 ≤ ck) = true := by simp; omega
    have hb7 : decide (1099511627776 < ck) = false := by simp; omega
    have hb8 : decide (ck ≤ 1099511627776) = true := by simp; omega
    have hb9 : decide ((cv.size : Int) ≤ 32) = false := by simp; omega
    have hb10 : decide (cv.size ≤ 32) = false := by simp; omega
    have hb1 : decide (t ≤ ct) = false := by simp; omega
    have hb2 : decide (ct < t) = true := by simp; omega
    go_enter Try.func142, Try.ntmps142
    go_wp2
    go_ret
    rw [HM.out]
    exact ⟨rfl, (Below.refl _ _).alloc (Nat.le_refl _) _⟩
  · obtain rfl := str_nil cv h6
    have hb3 : decide (ct < 0) = false := by simp; omega
    have hb4 : decide (0 ≤ ct) = true := by simp; omega
    have hb5 : decide (ck < 1) = false := by simp; omega
    have hb6 : decide (1 ≤ ck) = true := by simp; omega
    have hb7 : decide (1099511627776 < ck) = false := by simp; omega
    have hb8 : decide (ck ≤ 1099511627776) = true := by simp; omega
    have hb1 : decide (t ≤ ct) = false := by simp; omega
    have hb2 : decide (ct < t) = true := by simp; omega
    have HM := Lib.hid (show mayChg ⟨ct, ck, cg, ⟨#[]⟩⟩ t = true from decide_eq_true ⟨h1, h2, h3, h4, h5, .inr h6⟩)
    clear h5 h6
    cases cg
    · go_enter Try.func142, Try.ntmps142
      go_wp2
      go_ret
      rw [HM.out]
      exact ⟨rfl, (Below.refl _ _).alloc (Nat.le_refl _) _⟩
    · go_enter Try.func142, Try.ntmps142
      go_wp2
      go_ret
      rw [HM.out]
      exact ⟨rfl, (Below.refl _ _).alloc (Nat.le_refl _) _⟩
  · have h7 : cv.toList.isEmpty = false := by rw [str_empty]; simpa using h6
    have hb3 : decide (ct < 0) = false := by simp; omega
    have hb4 : decide (0 ≤ ct) = true := by simp; omega
    have hb5 : decide (ck < 1) = false := by simp; omega
    have hb6 : decide (1 ≤ ck) = true := by simp; omega
    have hb7 : decide (1099511627776 < ck) = false := by simp; omega
    have hb8 : decide (ck ≤ 1099511627776) = true := by simp; omega
    have hb9 : decide ((cv.size : Int) ≤ 32) = true := by simp; omega
    have hb10 : decide (cv.size ≤ 32) = true := by simp; omega
    have hb1 : decide (t ≤ ct) = false := by simp; omega
    have hb2 : decide (ct < t) = true := by simp; omega
    cases cg
    · have HM := Lib.hid (show mayChg ⟨ct, ck, false, cv⟩ t = true from decide_eq_true ⟨h1, h2, h3, h4, h5, .inl rfl⟩)
      clear h6
      go_enter Try.func142, Try.ntmps142
      go_wp2
      go_ret
      rw [HM.out]
      exact ⟨rfl, (Below.refl _ _).alloc (Nat.le_refl _) _⟩
    · have HM := Lib.hid (show mayChg ⟨ct, ck, true, cv⟩ t = false from decide_eq_false (by rintro ⟨_, _, _, _, _, h | h⟩ <;> first | cases h | exact h6 h))
      clear h6
      go_enter Try.func142, Try.ntmps142
      go_wp2
      go_ret
      rw [HM.out]
      exact ⟨rfl, (Below.refl _ _).alloc (Nat.le_refl _) _⟩

/-- May a transaction be? -/
def mayCli (t : Txn) : Bool := decide (t.mark = 0 ∧ t.changes.length ≤ 16 ∧ t.signals.length ≤ 2) && (t.changes.all (mayChg · 8) && t.signals.all (fun s => decide (s.size ≤ 40)))
def mayTxn (t : Txn) : Bool :=
  decide (1 ≤ t.lsn ∧ t.lsn ≤ 1099511627776) && (if t.kind = 1 then mayCli t else decide ((t.kind = 2 ∨ t.kind = 3) ∧ 1 ≤ t.mark ∧ t.mark ≤ 1099511627776 ∧ t.changes.length = 0 ∧ t.signals.length = 0))
end Go.Proofs.Ythhpddiicnjmmaa

set_option linter.unusedVariables false
namespace Go.Proofs.Ythhpddiicnjmmaa
open Go.RowKit

theorem IsSl.chg {w w' : World} {B n k : Nat} {A : Option Addr} {l : List Chg} (h : IsSl chgRep w (· < B) A n l) (hk : k < n) (hw : ∀ p : Addr, p.block < B → w'.cell? p = w.cell? p) :
    ∃ b off x, A = some ⟨b, off, none⟩ ∧ b < B ∧ l[k]? = some x ∧ x.wf ∧ w'.cell? ⟨b, off + k * 4, none⟩ = some (.int .i64 x.table) ∧ w'.cell? ⟨b, off + k * 4 + 1, none⟩ = some (.int .i64 x.key) ∧ w'.cell? ⟨b, off + k * 4 + 2, none⟩ = some (.bool x.gone) ∧ w'.cell? ⟨b, off + k * 4 + 3, none⟩ = some (.string x.val) := by
  obtain ⟨b, off, x, cs, rfl, hb, hx, ⟨rfl, hw2⟩, hc⟩ := h.at_ hk
  exact ⟨b, off, x, rfl, hb, hx, hw2, (hw _ hb).trans (hc 0 _ rfl), (hw _ hb).trans (hc 1 _ rfl), (hw _ hb).trans (hc 2 _ rfl), (hw _ hb).trans (hc 3 _ rfl)⟩

theorem IsSl.str {w w' : World} {B n k : Nat} {A : Option Addr} {l : List ByteArray} (h : IsSl strRep w (· < B) A n l) (hk : k < n) (hw : ∀ p : Addr, p.block < B → w'.cell? p = w.cell? p) :
    ∃ b off x, A = some ⟨b, off, none⟩ ∧ b < B ∧ l[k]? = some x ∧ x.size ≤ maxLen ∧ w'.cell? ⟨b, off + k, none⟩ = some (.string x) := by
  obtain ⟨b, off, x, cs, rfl, hb, hx, ⟨rfl, hw2⟩, hc⟩ := h.at_ hk
  have h0 := hc 0 _ rfl
  rw [show off + k * strRep.size + 0 = off + k by show off + k * 1 + 0 = _; omega] at h0
  exact ⟨b, off, x, rfl, hb, hx, hw2, (hw _ hb).trans h0⟩

/-- A transaction's cells. -/
def txnV (t : Txn) (A : Option Addr) (n c : Nat) (A2 : Option Addr) (n2 c2 : Nat) : Value := .agg #[.int .i64 t.lsn, .int .i64 t.kind, .slice A n c, .slice A2 n2 c2, .int .i64 t.mark]

theorem all_stop {α : Type} {p : α → Bool} {l : List α} {k : Nat} {x : α} (hx : l[k]? = some x) (hp : p x = false) : l.all p = false := by
  cases h : l.all p
  · rfl
  · have := List.all_eq_true.1 h x (List.mem_of_getElem? hx)
    rw [hp] at this
    cases this

theorem all_step {α : Type} {p : α → Bool} {l : List α} {k : Nat} {x : α} (hx : l[k]? = some x) (hp : p x = true) (h : (l.take k).all p = true) : (l.take (k + 1)).all p = true := by
  rw [take_snoc hx, List.all_append, h]
  simp [hp]

theorem all_done {α : Type} {p : α → Bool} {l : List α} {k : Nat} (hk : l.length ≤ k) (h : (l.take k).all p = true) : l.all p = true := by
  rwa [List.take_of_length_le hk] at h

set_option maxRecDepth 100000 in
set_option maxHeartbeats 4000000 in
theorem mayClient_any (t : Txn) (A : Option Addr) (n c : Nat) (A2 : Option Addr) (n2 c2 : Nat) (w : World) (h : IsSl chgRep w (· < w.heap.size) A n t.changes) (h2 : IsSl strRep w (· < w.heap.size) A2 n2 t.signals) :
    Calls Try.prog 132 #[.agg #[.int .i64 t.lsn, .int .i64 t.kind, .slice A n c, .slice A2 n2 c2, .int .i64 t.mark]] w fun e w' => e = .returned (.bool (mayCli t)) ∧ Below w.heap.size w w' := by
  obtain ⟨tl, tk, l1, l2, tm⟩ := t
  dsimp only at h h2 ⊢
  have H := Lib.hid h
  have H2 := Lib.hid h2
  have HL := Lib.hid h.len
  have HL2 := Lib.hid h2.len
  have hcases : ¬ tm = 0 ∨ (tm = 0 ∧ 16 < n) ∨ (tm = 0 ∧ n ≤ 16 ∧ 2 < n2) ∨ (tm = 0 ∧ n ≤ 16 ∧ n2 ≤ 2) := by omega
  clear h h2
  rcases hcases with h3 | ⟨rfl, h3⟩ | ⟨rfl, h3, h4⟩ | ⟨rfl, h3, h4⟩
  · have HM := Lib.hid (show mayCli ⟨tl, tk, l1, l2, tm⟩ = false by unfold mayCli; rw [decide_eq_false (by rintro ⟨h, _⟩; exact h3 h)]; rfl)
    have hb : (tm == 0) = false := by simpa using h3
    have hb2 : (tm != 0) = true := by simpa using h3
    clear h3
    go_enter Try.func132, Try.ntmps132
    go_wp2
    go_ret
    rw [HM.out]
    exact ⟨rfl, (Below.refl _ _).alloc (Nat.le_refl _) _⟩
  · have HM := Lib.hid (show mayCli ⟨tl, tk, l1, l2, 0⟩ = false by unfold mayCli; rw [decide_eq_false (by rintro ⟨_, h, _⟩; have := HL.out; dsimp only at h; omega)]; rfl)
    have hb : decide (16 < (n : Int)) = true := by simp; omega
    go_enter Try.func132, Try.ntmps132
    go_wp2
    go_ret
    rw [HM.out]
    exact ⟨rfl, (Below.refl _ _).alloc (Nat.le_refl _) _⟩
  · have HM := Lib.hid (show mayCli ⟨tl, tk, l1, l2, 0⟩ = false by unfold mayCli; rw [decide_eq_false (by rintro ⟨_, _, h⟩; have := HL2.out; dsimp only at h; omega)]; rfl)
    have hb : decide (16 < (n : Int)) = false := by simp; omega
    have hb2 : decide (2 < (n2 : Int)) = true := by simp; omega
    go_enter Try.func132, Try.ntmps132
    go_wp2
    go_ret
    rw [HM.out]
    exact ⟨rfl, (Below.refl _ _).alloc (Nat.le_refl _) _⟩
  · have HM := Lib.hid (show mayCli ⟨tl, tk, l1, l2, 0⟩ = (l1.all (mayChg · 8) && l2.all (fun s => decide (s.size ≤ 40))) by
      unfold mayCli; rw [decide_eq_true (by refine ⟨rfl, ?_, ?_⟩ <;> (have := HL.out; have := HL2.out; dsimp only; omega))]; rfl)
    have hb : decide (16 < (n : Int)) = false := by simp; omega
    have hb2 : decide (2 < (n2 : Int)) = false := by simp; omega
    go_enter Try.func132, Try.ntmps132
    go_wp2
    obtain ⟨W, hW⟩ : ∃ W, W = w.alloc (.cells #[.int .i64 tl, .int .i64 tk, .slice A n c, .slice A2 n2 c2, .int .i64 0] 68) := ⟨_, rfl⟩
    have d3 : W.cell? ⟨w.heap.size, 3, none⟩ = some (.slice A2 n2 c2) := by rw [hW]; exact World.cell?_alloc_at _ _ _ _ rfl
    have hgW : w.heap.size < W.heap.size := by rw [hW]; simp
    have belW : Below w.heap.size w W := by rw [hW]; exact (Below.refl _ _).alloc (Nat.le_refl _) _
    rw [← hW]
    clear hW
    go_loopw [25] (fun i wr => ∃ k : Nat, i = .int .i64 k ∧ k ≤ n ∧ (l1.take k).all (mayChg · 8) = true ∧ Below W.heap.size W wr) (fun i _ => n - (intOf i).toNat)
    case atStart => exact ⟨0, rfl, Nat.zero_le _, rfl, Below.refl _ _⟩
    case round =>
      obtain ⟨k, rfl, hk, hall, hbel⟩ := hrel
      have HA := Lib.hid hall
      have hs := hbel.size
      clear hall
      by_cases hlt : k < n
      · obtain ⟨b, off, x, rfl, hbS, hx, hwf, c0, c1, c3, c4⟩ := H.out.chg hlt (fun p hp => (hbel.cell (Nat.lt_trans hp hgW)).trans (belW.cell hp))
        have HX := Lib.hid hx
        clear hx hwf
        obtain ⟨xt, xk, xg, xv⟩ := x
        dsimp only at c0 c1 c3 c4
        cases hm : mayChg ⟨xt, xk, xg, xv⟩ 8
        · have HF := Lib.hid hm
          clear hm
          go_wp2_with (first
            | (go_at_call 154; (with_reducible refine (mayChange_any ⟨xt, xk, xg, xv⟩ 8 _).mono ?_); rintro e w3 ⟨rfl, bel3⟩; rw [HF.out]; have BEL3 := Lib.hid bel3; clear bel3)
            | fail)
          go_ret
          rw [HM.out, all_stop HX.out HF.out]
          exact ⟨rfl, belW.trans ((hbel.trans (((Below.refl _ _).alloc (Nat.le_refl _) _).trans (BEL3.out.mono (by simp)) |>.mono hs)).mono belW.size)⟩
        · have HF := Lib.hid hm
          clear hm
          go_wp2_with (first
            | (go_at_call 154; (with_reducible refine (mayChange_any ⟨xt, xk, xg, xv⟩ 8 _).mono ?_); rintro e w3 ⟨rfl, bel3⟩; rw [HF.out]; have BEL3 := Lib.hid bel3; clear bel3)
            | fail)
          go_roundw
          case rel => exact ⟨k + 1, by go_num, by omega, all_step HX.out HF.out HA.out, hbel.trans (((Below.refl _ _).alloc (Nat.le_refl _) _).trans (BEL3.out.mono (by simp)) |>.mono hs)⟩
          case measure => simp [intOf]; omega
      · have HA2 := Lib.hid (all_done (by rw [← HL.out]; omega) HA.out)
        have e3 : wr.cell? ⟨w.heap.size, 3, none⟩ = some (.slice A2 n2 c2) := (hbel.cell (p := ⟨w.heap.size, 3, none⟩) hgW).trans d3
        have belR := belW.trans (hbel.mono belW.size)
        clear HA
        go_wp2
        go_loop [36] (fun i => ∃ k : Nat, i = .int .i64 k ∧ k ≤ n2 ∧ (l2.take k).all (fun s => decide (s.size ≤ 40)) = true) (fun i => n2 - (intOf i).toNat)
        case atStart => exact ⟨0, rfl, Nat.zero_le _, rfl⟩
        case round =>
          obtain ⟨k2, rfl, hk2, hall⟩ := hrel
          have HA := Lib.hid hall
          clear hall
          by_cases hlt2 : k2 < n2
          · obtain ⟨b, off, x, rfl, hbS, hx, hxs, c0⟩ := H2.out.str hlt2 (fun p hp => belR.cell hp)
            have HX := Lib.hid hx
            clear hx
            by_cases hsz : x.size ≤ 40
            · have hb4 : decide (40 < (x.size : Int)) = false := by simp; omega
              go_wp2
              go_round
              case rel => exact ⟨k2 + 1, by go_num, by omega, all_step HX.out (decide_eq_true hsz) HA.out⟩
              case measure => simp [intOf]; omega
            · have hb4 : decide (40 < (x.size : Int)) = true := by simp; omega
              go_wp2
              go_ret
              rw [HM.out, HA2.out, all_stop HX.out (decide_eq_false hsz)]
              exact ⟨rfl, belR⟩
          · have HA3 := Lib.hid (all_done (by rw [← HL2.out]; omega) HA.out)
            clear HA
            go_wp2
            go_ret
            rw [HM.out, HA2.out, HA3.out]
            exact ⟨rfl, belR⟩
end Go.Proofs.Ythhpddiicnjmmaa

set_option linter.unusedVariables false
namespace Go.Proofs.Ythhpddiicnjmmaa
open Go.RowKit

theorem mayTxn_lo {t : Txn} (h : t.lsn < 1) : mayTxn t = false := by unfold mayTxn; rw [decide_eq_false (by omega)]; rfl
theorem mayTxn_hi {t : Txn} (h : 1099511627776 < t.lsn) : mayTxn t = false := by unfold mayTxn; rw [decide_eq_false (by omega)]; rfl
theorem mayTxn_cli {t : Txn} (h : 1 ≤ t.lsn) (h2 : t.lsn ≤ 1099511627776) (hk : t.kind = 1) : mayTxn t = mayCli t := by unfold mayTxn; rw [decide_eq_true ⟨h, h2⟩, if_pos hk]; rfl
theorem mayTxn_other {t : Txn} (hk : ¬ t.kind = 1) (hk2 : ¬ t.kind = 2) (hk3 : ¬ t.kind = 3) : mayTxn t = false := by unfold mayTxn; rw [if_neg hk, decide_eq_false (p := (t.kind = 2 ∨ t.kind = 3) ∧ _) (by rintro ⟨h | h, _⟩ <;> contradiction), Bool.and_false]
theorem mayTxn_mark {t : Txn} (h : 1 ≤ t.lsn) (h2 : t.lsn ≤ 1099511627776) (hk : t.kind = 2 ∨ t.kind = 3) : mayTxn t = decide (1 ≤ t.mark ∧ t.mark ≤ 1099511627776 ∧ t.changes.length = 0 ∧ t.signals.length = 0) := by
  unfold mayTxn
  rw [decide_eq_true ⟨h, h2⟩, if_neg (by omega)]
  simp [hk]

set_option maxRecDepth 100000 in
set_option maxHeartbeats 8000000 in
theorem txnMay_any (t : Txn) (A : Option Addr) (n c : Nat) (A2 : Option Addr) (n2 c2 : Nat) (w : World) (h : IsSl chgRep w (· < w.heap.size) A n t.changes) (h2 : IsSl strRep w (· < w.heap.size) A2 n2 t.signals) :
    Calls Try.prog 77 #[.agg #[.int .i64 t.lsn, .int .i64 t.kind, .slice A n c, .slice A2 n2 c2, .int .i64 t.mark]] w fun e w' => e = .returned (.bool (mayTxn t)) ∧ Below w.heap.size w w' := by
  have HL := Lib.hid h.len
  have HL2 := Lib.hid h2.len
  by_cases hlo : t.lsn < 1
  · have HM := Lib.hid (mayTxn_lo hlo)
    have hb1 : decide (t.lsn < 1) = true := decide_eq_true hlo
    clear h h2
    obtain ⟨tl, tk, l1, l2, tm⟩ := t
    dsimp only at hlo hb1 ⊢
    go_enter Try.func77, Try.ntmps77
    go_wp2
    go_ret
    rw [HM.out]
    exact ⟨rfl, (Below.refl _ _).alloc (Nat.le_refl _) _⟩
  · have hb1 : decide (t.lsn < 1) = false := decide_eq_false hlo
    by_cases hhi : 1099511627776 < t.lsn
    · have HM := Lib.hid (mayTxn_hi hhi)
      have hb2 : decide (1099511627776 < t.lsn) = true := decide_eq_true hhi
      clear h h2
      obtain ⟨tl, tk, l1, l2, tm⟩ := t
      dsimp only at hlo hb1 hhi hb2 ⊢
      go_enter Try.func77, Try.ntmps77
      go_wp2
      go_ret
      rw [HM.out]
      exact ⟨rfl, (Below.refl _ _).alloc (Nat.le_refl _) _⟩
    · have hb2 : decide (1099511627776 < t.lsn) = false := decide_eq_false hhi
      by_cases hk1 : t.kind = 1
      · have HM := Lib.hid (mayTxn_cli (by omega) (by omega) hk1)
        have H := Lib.hid h
        have H2 := Lib.hid h2
        clear h h2
        obtain ⟨tl, tk, l1, l2, tm⟩ := t
        dsimp only at hlo hb1 hhi hb2 hk1 ⊢
        subst hk1
        go_enter Try.func77, Try.ntmps77
        go_wp2_with (first
          | (go_at_call 132; (with_reducible refine (mayClient_any ⟨tl, 1, l1, l2, tm⟩ A n c A2 n2 c2 _ ((H.out.below ((Below.refl _ _).alloc (Nat.le_refl _) _)).more (by simp)) ((H2.out.below ((Below.refl _ _).alloc (Nat.le_refl _) _)).more (by simp))).mono ?_); rintro e w3 ⟨rfl, bel3⟩)
          | fail)
        go_ret
        rw [HM.out]
        exact ⟨rfl, ((Below.refl _ _).alloc (Nat.le_refl _) _).trans (bel3.mono (by simp))⟩
      · have hk1b : (t.kind == 1) = false := by simpa using hk1
        by_cases hk2 : t.kind = 2 ∨ t.kind = 3
        · have HM := Lib.hid (mayTxn_mark (by omega) (by omega) hk2)
          have hc : t.mark < 1 ∨ (1 ≤ t.mark ∧ 1099511627776 < t.mark) ∨ (1 ≤ t.mark ∧ t.mark ≤ 1099511627776 ∧ ¬ n = 0) ∨ (1 ≤ t.mark ∧ t.mark ≤ 1099511627776 ∧ n = 0 ∧ ¬ n2 = 0) ∨ (1 ≤ t.mark ∧ t.mark ≤ 1099511627776 ∧ n = 0 ∧ n2 = 0) := by omega
          clear h h2
          obtain ⟨tl, tk, l1, l2, tm⟩ := t
          dsimp only at hlo hb1 hhi hb2 hk1 hk1b hk2 hc ⊢
          clear hk1 hk1b
          rcases hk2 with rfl | rfl
          all_goals
            rcases hc with hc1 | ⟨hc1, hc2⟩ | ⟨hc1, hc2, hc3⟩ | ⟨hc1, hc2, hc3, hc4⟩ | ⟨hc1, hc2, hc3, hc4⟩
            · have HF := Lib.hid (show decide (1 ≤ tm ∧ tm ≤ 1099511627776 ∧ l1.length = 0 ∧ l2.length = 0) = false from decide_eq_false (by omega))
              have hd1 : decide (1 ≤ tm) = false := decide_eq_false (by omega)
              go_enter Try.func77, Try.ntmps77
              go_wp2
              go_ret
              rw [HM.out, HF.out]
              exact ⟨rfl, (Below.refl _ _).alloc (Nat.le_refl _) _⟩
            · have HF := Lib.hid (show decide (1 ≤ tm ∧ tm ≤ 1099511627776 ∧ l1.length = 0 ∧ l2.length = 0) = false from decide_eq_false (by omega))
              have hd1 : decide (1 ≤ tm) = true := decide_eq_true (by omega)
              have hd2 : decide (tm ≤ 1099511627776) = false := decide_eq_false (by omega)
              go_enter Try.func77, Try.ntmps77
              go_wp2
              go_ret
              rw [HM.out, HF.out]
              exact ⟨rfl, (Below.refl _ _).alloc (Nat.le_refl _) _⟩
            · have HF := Lib.hid (show decide (1 ≤ tm ∧ tm ≤ 1099511627776 ∧ l1.length = 0 ∧ l2.length = 0) = false from decide_eq_false (by have := HL.out; dsimp only at this; omega))
              have hd1 : decide (1 ≤ tm) = true := decide_eq_true (by omega)
              have hd2 : decide (tm ≤ 1099511627776) = true := decide_eq_true (by omega)
              have hd3 : ((n : Int) == 0) = false := by simp; omega
              go_enter Try.func77, Try.ntmps77
              go_wp2
              go_ret
              rw [HM.out, HF.out]
              exact ⟨rfl, (Below.refl _ _).alloc (Nat.le_refl _) _⟩
            · have HF := Lib.hid (show decide (1 ≤ tm ∧ tm ≤ 1099511627776 ∧ l1.length = 0 ∧ l2.length = 0) = false from decide_eq_false (by have := HL2.out; dsimp only at this; omega))
              have hd1 : decide (1 ≤ tm) = true := decide_eq_true (by omega)
              have hd2 : decide (tm ≤ 1099511627776) = true := decide_eq_true (by omega)
              have hd4 : ((n2 : Int) == 0) = false := by simp; omega
              subst hc3
              go_enter Try.func77, Try.ntmps77
              go_wp2
              go_ret
              rw [HM.out, HF.out]
              exact ⟨rfl, (Below.refl _ _).alloc (Nat.le_refl _) _⟩
            · have HF := Lib.hid (show decide (1 ≤ tm ∧ tm ≤ 1099511627776 ∧ l1.length = 0 ∧ l2.length = 0) = true from decide_eq_true (by have := HL.out; have := HL2.out; dsimp only at *; omega))
              have hd1 : decide (1 ≤ tm) = true := decide_eq_true (by omega)
              have hd2 : decide (tm ≤ 1099511627776) = true := decide_eq_true (by omega)
              subst hc3 hc4
              go_enter Try.func77, Try.ntmps77
              go_wp2
              go_ret
              rw [HM.out, HF.out]
              exact ⟨rfl, (Below.refl _ _).alloc (Nat.le_refl _) _⟩
        · have HM := Lib.hid (mayTxn_other hk1 (fun h => hk2 (.inl h)) (fun h => hk2 (.inr h)))
          have hk2b : (t.kind == 2) = false := by simp; omega
          have hk3b : (t.kind == 3) = false := by simp; omega
          clear h h2 hk1 hk2
          obtain ⟨tl, tk, l1, l2, tm⟩ := t
          dsimp only at hlo hb1 hhi hb2 hk1b hk2b hk3b ⊢
          go_enter Try.func77, Try.ntmps77
          go_wp2
          go_ret
          rw [HM.out]
          exact ⟨rfl, (Below.refl _ _).alloc (Nat.le_refl _) _⟩

end Go.Proofs.Ythhpddiicnjmmaa

set_option linter.unusedVariables false
namespace Go.Proofs.Ythhpddiicnjmmaa
open Go.RowKit

set_option maxRecDepth 100000 in
set_option maxHeartbeats 8000000 in
theorem txnRefMay_any (t : Txn) (A : Option Addr) (n c : Nat) (A2 : Option Addr) (n2 c2 : Nat) (w : World) (h : IsSl chgRep w (· < w.heap.size) A n t.changes) (h2 : IsSl strRep w (· < w.heap.size) A2 n2 t.signals) :
    Calls Try.prog 105 #[.agg #[.int .i64 t.lsn, .int .i64 t.kind, .slice A n c, .slice A2 n2 c2, .int .i64 t.mark]] w fun e w' => e = .returned (.bool (mayTxn t)) ∧ Below w.heap.size w w' := by
  have HL := Lib.hid h.len
  have HL2 := Lib.hid h2.len
  by_cases hlo : t.lsn < 1
  · have HM := Lib.hid (mayTxn_lo hlo)
    have hb1 : decide (t.lsn < 1) = true := decide_eq_true hlo
    clear h h2
    obtain ⟨tl, tk, l1, l2, tm⟩ := t
    dsimp only at hlo hb1 ⊢
    go_enter Try.func105, Try.ntmps105
    go_wp2
    go_ret
    rw [HM.out]
    exact ⟨rfl, (Below.refl _ _).alloc (Nat.le_refl _) _⟩
  · have hb1 : decide (t.lsn < 1) = false := decide_eq_false hlo
    by_cases hhi : 1099511627776 < t.lsn
    · have HM := Lib.hid (mayTxn_hi hhi)
      have hb2 : decide (1099511627776 < t.lsn) = true := decide_eq_true hhi
      clear h h2
      obtain ⟨tl, tk, l1, l2, tm⟩ := t
      dsimp only at hlo hb1 hhi hb2 ⊢
      go_enter Try.func105, Try.ntmps105
      go_wp2
      go_ret
      rw [HM.out]
      exact ⟨rfl, (Below.refl _ _).alloc (Nat.le_refl _) _⟩
    · have hb2 : decide (1099511627776 < t.lsn) = false := decide_eq_false hhi
      by_cases hk1 : t.kind = 1
      · have HM := Lib.hid (mayTxn_cli (by omega) (by omega) hk1)
        have H := Lib.hid h
        have H2 := Lib.hid h2
        clear h h2
        obtain ⟨tl, tk, l1, l2, tm⟩ := t
        dsimp only at hlo hb1 hhi hb2 hk1 ⊢
        subst hk1
        have hcases : ¬ tm = 0 ∨ (tm = 0 ∧ 16 < n) ∨ (tm = 0 ∧ n ≤ 16 ∧ 2 < n2) ∨ (tm = 0 ∧ n ≤ 16 ∧ n2 ≤ 2) := by omega
        rcases hcases with h3 | ⟨rfl, h3⟩ | ⟨rfl, h3, h4⟩ | ⟨rfl, h3, h4⟩
        · have HF := Lib.hid (show mayCli ⟨tl, 1, l1, l2, tm⟩ = false by unfold mayCli; rw [decide_eq_false (by rintro ⟨h, _⟩; exact h3 h)]; rfl)
          have hb : (tm == 0) = false := by simpa using h3
          have hb3 : (tm != 0) = true := by simpa using h3
          clear h3
          go_enter Try.func105, Try.ntmps105
          go_wp2
          go_ret
          rw [HM.out, HF.out]
          exact ⟨rfl, (Below.refl _ _).alloc (Nat.le_refl _) _⟩
        · have HF := Lib.hid (show mayCli ⟨tl, 1, l1, l2, 0⟩ = false by unfold mayCli; rw [decide_eq_false (by rintro ⟨_, h, _⟩; have := HL.out; dsimp only at h this; omega)]; rfl)
          have hb : decide (16 < (n : Int)) = true := by simp; omega
          go_enter Try.func105, Try.ntmps105
          go_wp2
          go_ret
          rw [HM.out, HF.out]
          exact ⟨rfl, (Below.refl _ _).alloc (Nat.le_refl _) _⟩
        · have HF := Lib.hid (show mayCli ⟨tl, 1, l1, l2, 0⟩ = false by unfold mayCli; rw [decide_eq_false (by rintro ⟨_, _, h⟩; have := HL2.out; dsimp only at h this; omega)]; rfl)
          have hb : decide (16 < (n : Int)) = false := by simp; omega
          have hb3 : decide (2 < (n2 : Int)) = true := by simp; omega
          go_enter Try.func105, Try.ntmps105
          go_wp2
          go_ret
          rw [HM.out, HF.out]
          exact ⟨rfl, (Below.refl _ _).alloc (Nat.le_refl _) _⟩
        · have HF := Lib.hid (show mayCli ⟨tl, 1, l1, l2, 0⟩ = (l1.all (mayChg · 8) && l2.all (fun s => decide (s.size ≤ 40))) by
            unfold mayCli; rw [decide_eq_true (by refine ⟨rfl, ?_, ?_⟩ <;> (have := HL.out; have := HL2.out; dsimp only at *; omega))]; rfl)
          have hb : decide (16 < (n : Int)) = false := by simp; omega
          have hb3 : decide (2 < (n2 : Int)) = false := by simp; omega
          go_enter Try.func105, Try.ntmps105
          go_wp2
          obtain ⟨W, hW⟩ : ∃ W, W = w.alloc (.cells #[.int .i64 tl, .int .i64 1, .slice A n c, .slice A2 n2 c2, .int .i64 0] 68) := ⟨_, rfl⟩
          have d2 : W.cell? ⟨w.heap.size, 2, none⟩ = some (.slice A n c) := by rw [hW]; exact World.cell?_alloc_at _ _ _ _ rfl
          have d3 : W.cell? ⟨w.heap.size, 3, none⟩ = some (.slice A2 n2 c2) := by rw [hW]; exact World.cell?_alloc_at _ _ _ _ rfl
          have hgW : w.heap.size < W.heap.size := by rw [hW]; simp
          have belW : Below w.heap.size w W := by rw [hW]; exact (Below.refl _ _).alloc (Nat.le_refl _) _
          rw [← hW]
          clear hW
          go_loopw [3] (fun i wr => ∃ k : Nat, i = .int .i64 k ∧ k ≤ n ∧ (l1.take k).all (mayChg · 8) = true ∧ Below W.heap.size W wr) (fun i _ => n - (intOf i).toNat)
          case atStart => exact ⟨0, rfl, Nat.zero_le _, rfl, Below.refl _ _⟩
          case round =>
            obtain ⟨k, rfl, hk, hall, hbel⟩ := hrel
            have HA := Lib.hid hall
            have hs := hbel.size
            have f2 : wr.cell? ⟨w.heap.size, 2, none⟩ = some (.slice A n c) := (hbel.cell (p := ⟨w.heap.size, 2, none⟩) hgW).trans d2
            clear hall
            by_cases hlt : k < n
            · obtain ⟨b, off, x, rfl, hbS, hx, hwf, c0, c1, c3, c4⟩ := H.out.chg hlt (fun p hp => (hbel.cell (Nat.lt_trans hp hgW)).trans (belW.cell hp))
              have HX := Lib.hid hx
              clear hx hwf
              obtain ⟨xt, xk, xg, xv⟩ := x
              dsimp only at c0 c1 c3 c4
              cases hm : mayChg ⟨xt, xk, xg, xv⟩ 8
              · have HG := Lib.hid hm
                clear hm
                go_wp2_with (first
                  | (go_at_call 142; (with_reducible refine (refmayChange_any ⟨xt, xk, xg, xv⟩ 8 _).mono ?_); rintro e w3 ⟨rfl, bel3⟩; rw [HG.out]; have BEL3 := Lib.hid bel3; clear bel3)
                  | fail)
                go_ret
                rw [HM.out, HF.out, all_stop HX.out HG.out]
                exact ⟨rfl, belW.trans ((hbel.trans (BEL3.out.mono hs)).mono belW.size)⟩
              · have HG := Lib.hid hm
                clear hm
                go_wp2_with (first
                  | (go_at_call 142; (with_reducible refine (refmayChange_any ⟨xt, xk, xg, xv⟩ 8 _).mono ?_); rintro e w3 ⟨rfl, bel3⟩; rw [HG.out]; have BEL3 := Lib.hid bel3; clear bel3)
                  | fail)
                go_roundw
                case rel => exact ⟨k + 1, by go_num, by omega, all_step HX.out HG.out HA.out, hbel.trans (BEL3.out.mono hs)⟩
                case measure => simp [intOf]; omega
            · have HA2 := Lib.hid (all_done (by have := HL.out; omega) HA.out)
              have e3 : wr.cell? ⟨w.heap.size, 3, none⟩ = some (.slice A2 n2 c2) := (hbel.cell (p := ⟨w.heap.size, 3, none⟩) hgW).trans d3
              have belR := belW.trans (hbel.mono belW.size)
              clear HA
              go_wp2
              go_loop [4] (fun i => ∃ k : Nat, i = .int .i64 k ∧ k ≤ n2 ∧ (l2.take k).all (fun s => decide (s.size ≤ 40)) = true) (fun i => n2 - (intOf i).toNat)
              case atStart => exact ⟨0, rfl, Nat.zero_le _, rfl⟩
              case round =>
                obtain ⟨k2, rfl, hk2, hall⟩ := hrel
                have HA := Lib.hid hall
                clear hall
                by_cases hlt2 : k2 < n2
                · obtain ⟨b, off, x, rfl, hbS, hx, hxs, c0⟩ := H2.out.str hlt2 (fun p hp => belR.cell hp)
                  have HX := Lib.hid hx
                  clear hx
                  by_cases hsz : x.size ≤ 40
                  · have hb4 : decide (40 < (x.size : Int)) = false := by simp; omega
                    go_wp2
                    go_round
                    case rel => exact ⟨k2 + 1, by go_num, by omega, all_step HX.out (decide_eq_true hsz) HA.out⟩
                    case measure => simp [intOf]; omega
                  · have hb4 : decide (40 < (x.size : Int)) = true := by simp; omega
                    go_wp2
                    go_ret
                    rw [HM.out, HF.out, HA2.out, all_stop HX.out (decide_eq_false hsz)]
                    exact ⟨rfl, belR⟩
                · have HA3 := Lib.hid (all_done (by have := HL2.out; omega) HA.out)
                  clear HA
                  go_wp2
                  go_ret
                  rw [HM.out, HF.out, HA2.out, HA3.out]
                  exact ⟨rfl, belR⟩
      · have hk1b : (t.kind == 1) = false := by simpa using hk1
        by_cases hk2 : t.kind = 2 ∨ t.kind = 3
        · have HM := Lib.hid (mayTxn_mark (by omega) (by omega) hk2)
          have hc : t.mark < 1 ∨ (1 ≤ t.mark ∧ 1099511627776 < t.mark) ∨ (1 ≤ t.mark ∧ t.mark ≤ 1099511627776 ∧ ¬ n = 0) ∨ (1 ≤ t.mark ∧ t.mark ≤ 1099511627776 ∧ n = 0 ∧ ¬ n2 = 0) ∨ (1 ≤ t.mark ∧ t.mark ≤ 1099511627776 ∧ n = 0 ∧ n2 = 0) := by omega
          clear h h2
          obtain ⟨tl, tk, l1, l2, tm⟩ := t
          dsimp only at hlo hb1 hhi hb2 hk1 hk1b hk2 hc ⊢
          clear hk1 hk1b
          rcases hk2 with rfl | rfl
          all_goals
            rcases hc with hc1 | ⟨hc1, hc2⟩ | ⟨hc1, hc2, hc3⟩ | ⟨hc1, hc2, hc3, hc4⟩ | ⟨hc1, hc2, hc3, hc4⟩
            · have HF := Lib.hid (show decide (1 ≤ tm ∧ tm ≤ 1099511627776 ∧ l1.length = 0 ∧ l2.length = 0) = false from decide_eq_false (by omega))
              have hd1 : decide (1 ≤ tm) = false := decide_eq_false (by omega)
              go_enter Try.func105, Try.ntmps105
              go_wp2
              go_ret
              rw [HM.out, HF.out]
              exact ⟨rfl, (Below.refl _ _).alloc (Nat.le_refl _) _⟩
            · have HF := Lib.hid (show decide (1 ≤ tm ∧ tm ≤ 1099511627776 ∧ l1.length = 0 ∧ l2.length = 0) = false from decide_eq_false (by omega))
              have hd1 : decide (1 ≤ tm) = true := decide_eq_true (by omega)
              have hd2 : decide (tm ≤ 1099511627776) = false := decide_eq_false (by omega)
              go_enter Try.func105, Try.ntmps105
              go_wp2
              go_ret
              rw [HM.out, HF.out]
              exact ⟨rfl, (Below.refl _ _).alloc (Nat.le_refl _) _⟩
            · have HF := Lib.hid (show decide (1 ≤ tm ∧ tm ≤ 1099511627776 ∧ l1.length = 0 ∧ l2.length = 0) = false from decide_eq_false (by have := HL.out; dsimp only at this; omega))
              have hd1 : decide (1 ≤ tm) = true := decide_eq_true (by omega)
              have hd2 : decide (tm ≤ 1099511627776) = true := decide_eq_true (by omega)
              have hd3 : ((n : Int) == 0) = false := by simp; omega
              go_enter Try.func105, Try.ntmps105
              go_wp2
              go_ret
              rw [HM.out, HF.out]
              exact ⟨rfl, (Below.refl _ _).alloc (Nat.le_refl _) _⟩
            · have HF := Lib.hid (show decide (1 ≤ tm ∧ tm ≤ 1099511627776 ∧ l1.length = 0 ∧ l2.length = 0) = false from decide_eq_false (by have := HL2.out; dsimp only at this; omega))
              have hd1 : decide (1 ≤ tm) = true := decide_eq_true (by omega)
              have hd2 : decide (tm ≤ 1099511627776) = true := decide_eq_true (by omega)
              have hd4 : ((n2 : Int) == 0) = false := by simp; omega
              subst hc3
              go_enter Try.func105, Try.ntmps105
              go_wp2
              go_ret
              rw [HM.out, HF.out]
              exact ⟨rfl, (Below.refl _ _).alloc (Nat.le_refl _) _⟩
            · have HF := Lib.hid (show decide (1 ≤ tm ∧ tm ≤ 1099511627776 ∧ l1.length = 0 ∧ l2.length = 0) = true from decide_eq_true (by have := HL.out; have := HL2.out; dsimp only at *; omega))
              have hd1 : decide (1 ≤ tm) = true := decide_eq_true (by omega)
              have hd2 : decide (tm ≤ 1099511627776) = true := decide_eq_true (by omega)
              subst hc3 hc4
              go_enter Try.func105, Try.ntmps105
              go_wp2
              go_ret
              rw [HM.out, HF.out]
              exact ⟨rfl, (Below.refl _ _).alloc (Nat.le_refl _) _⟩
        · have HM := Lib.hid (mayTxn_other hk1 (fun h => hk2 (.inl h)) (fun h => hk2 (.inr h)))
          have hk2b : (t.kind == 2) = false := by simp; omega
          have hk3b : (t.kind == 3) = false := by simp; omega
          clear h h2 hk1 hk2
          obtain ⟨tl, tk, l1, l2, tm⟩ := t
          dsimp only at hlo hb1 hhi hb2 hk1b hk2b hk3b ⊢
          go_enter Try.func105, Try.ntmps105
          go_wp2
          go_ret
          rw [HM.out]
          exact ⟨rfl, (Below.refl _ _).alloc (Nat.le_refl _) _⟩

end Go.Proofs.Ythhpddiicnjmmaa
