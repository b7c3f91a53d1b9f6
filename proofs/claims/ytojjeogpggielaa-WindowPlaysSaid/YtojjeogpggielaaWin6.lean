/- Contract of the window: Waits. -/
import Derived.Test.YtojjeogpggielaaWin5
set_option linter.unusedVariables false
set_option linter.unusedSimpArgs false
namespace Go.Proofs.Ytojjeogpggielaa
open Go.RowKit

def Win.waits (x : Win) (kind mark : Int) : Bool := decide (kind = 2 ∧ mark = x.mark ∧ (x.state = 1 ∨ x.state = 2))

set_option maxHeartbeats 4000000 in
set_option maxRecDepth 100000 in
theorem winwaits_any (g : Nat) (S : Nat → Prop) (x : Win) (lsn kind mark : Int) (w : World) (h : WinOwn w S g x) :
    Calls Try.prog 34 #[.pointer (some ⟨g, 0, none⟩), .agg #[.int .i64 lsn, .int .i64 kind, .slice none 0 0, .slice none 0 0, .int .i64 mark]] w fun e w' => e = .returned (.bool (x.waits kind mark)) ∧ Below w.heap.size w w' := by
  obtain ⟨rv, h⟩ := h
  obtain ⟨c0, c1, c2, c3, c4, c5, c6, c7, c8, cz⟩ := h.blk.c9
  have hgl := h.lt
  clear h
  obtain ⟨xm, xa, xi, xt, xr, xc, xl, xn, xs⟩ := x
  dsimp only at c0 c1 c2 c3 c4 c5 c6 c7 c8
  obtain ⟨W, hW⟩ : ∃ W, W = w.alloc (.cells #[.int .i64 lsn, .int .i64 kind, .slice none 0 0, .slice none 0 0, .int .i64 mark] 68) := ⟨_, rfl⟩
  have B1 := Lib.hid (show Below w.heap.size w W by rw [hW]; exact (Below.refl _ _).alloc (Nat.le_refl _) _)
  have q1 : W.cell? ⟨w.heap.size, 1, none⟩ = some (.int .i64 kind) := by rw [hW]; exact World.cell?_alloc_at _ _ _ _ rfl
  have q4 : W.cell? ⟨w.heap.size, 4, none⟩ = some (.int .i64 mark) := by rw [hW]; exact World.cell?_alloc_at _ _ _ _ rfl
  have k0 : W.cell? ⟨g, 0, none⟩ = some (.int .i64 xm) := (B1.out.cell hgl).trans c0
  have k8 : W.cell? ⟨g, 8, none⟩ = some (.int .i64 xs) := (B1.out.cell hgl).trans c8
  clear c0 c1 c2 c3 c4 c5 c6 c7 c8 cz
  have HW := Lib.hid hW
  clear hW
  have hcases : ¬ kind = 2 ∨ (kind = 2 ∧ ¬ mark = xm) ∨ (kind = 2 ∧ mark = xm ∧ xs = 1) ∨ (kind = 2 ∧ mark = xm ∧ ¬ xs = 1 ∧ xs = 2) ∨ (kind = 2 ∧ mark = xm ∧ ¬ xs = 1 ∧ ¬ xs = 2) := by omega
  rcases hcases with h1 | ⟨h1, h2⟩ | ⟨h1, h2, h3⟩ | ⟨h1, h2, h3, h4⟩ | ⟨h1, h2, h3, h4⟩
  · have HF := Lib.hid (show Win.waits ⟨xm, xa, xi, xt, xr, xc, xl, xn, xs⟩ kind mark = false from decide_eq_false (fun h => h1 h.1))
    have d1 : (kind == 2) = false := by simpa using h1
    have d1d : decide (kind = 2) = false := decide_eq_false h1
    clear h1
    go_enter Try.func34, Try.ntmps34
    go_wp2_with fail
    rw [← HW.out]
    go_quiet (fail)
    go_wp2
    go_ret
    rw [HF.out]
    exact ⟨rfl, below_drewN B1.out _⟩
  · have HF := Lib.hid (show Win.waits ⟨xm, xa, xi, xt, xr, xc, xl, xn, xs⟩ kind mark = false from decide_eq_false (fun h => h2 h.2.1))
    subst h1
    have d1 : (mark == xm) = false := by simpa using h2
    have d1d : decide (mark = xm) = false := decide_eq_false h2
    clear h2
    go_enter Try.func34, Try.ntmps34
    go_wp2_with fail
    rw [← HW.out]
    go_quiet (fail)
    go_wp2
    go_ret
    rw [HF.out]
    exact ⟨rfl, below_drewN B1.out _⟩
  · have HF := Lib.hid (show Win.waits ⟨xm, xa, xi, xt, xr, xc, xl, xn, xs⟩ kind mark = true from decide_eq_true ⟨h1, h2, .inl h3⟩)
    subst h1 h2 h3
    go_enter Try.func34, Try.ntmps34
    go_wp2_with fail
    rw [← HW.out]
    go_quiet (fail)
    go_wp2
    go_ret
    rw [HF.out]
    exact ⟨rfl, below_drewN B1.out _⟩
  · have HF := Lib.hid (show Win.waits ⟨xm, xa, xi, xt, xr, xc, xl, xn, xs⟩ kind mark = true from decide_eq_true ⟨h1, h2, .inr h4⟩)
    subst h1 h2 h4
    clear h3
    go_enter Try.func34, Try.ntmps34
    go_wp2_with fail
    rw [← HW.out]
    go_quiet (fail)
    go_wp2
    go_ret
    rw [HF.out]
    exact ⟨rfl, below_drewN B1.out _⟩
  · have HF := Lib.hid (show Win.waits ⟨xm, xa, xi, xt, xr, xc, xl, xn, xs⟩ kind mark = false from decide_eq_false (fun h => h.2.2.elim h3 h4))
    subst h1 h2
    have d1 : (xs == 1) = false := by simpa using h3
    have d1d : decide (xs = 1) = false := decide_eq_false h3
    have d2 : (xs == 2) = false := by simpa using h4
    have d2d : decide (xs = 2) = false := decide_eq_false h4
    clear h3 h4
    go_enter Try.func34, Try.ntmps34
    go_wp2_with fail
    rw [← HW.out]
    go_quiet (fail)
    go_wp2
    go_ret
    rw [HF.out]
    exact ⟨rfl, below_drewN B1.out _⟩
end Go.Proofs.Ytojjeogpggielaa
