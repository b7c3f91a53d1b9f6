/- Contracts of the reference's window: Open, Shut, Low, Waits, Plan. Contract of the reference's window: Fill. Contract of the reference's window: See. -/
import Derived.Test.YthhpddiicnjmmaaWinB
import Derived.Test.YthhpddiicnjmmaaHit
set_option linter.unusedVariables false
set_option linter.unusedSimpArgs false
set_option maxRecDepth 100000
namespace Go.Proofs.Ythhpddiicnjmmaa
open Go.RowKit

theorem gset {w w' : World} {g : Nat} (h : w.grownBy w' (some g)) (j : Nat) (v : Value) : w.grownBy (w'.setCell ⟨g, j, none⟩ v) (some g) := grown_trans h (grown_setB w' ⟨g, j, none⟩ v)

/-- The reference's window at block g; its rows lie in T. -/
structure RefAt (w : World) (T : Nat → Prop) (g : Nat) (x : Win) (A : Option Addr) (c : Nat) : Prop where
  blk : Blk w g [.int .i64 x.n, .int .i64 x.state, .int .i64 x.id, .int .i64 x.table, .int .i64 x.mark, .int .i64 x.after, .int .i64 x.cursor, .bool x.last, .slice A x.rows.length c]
  rows : IsSl rowRep w T A x.rows.length x.rows
  hT : ∀ k, T k → k < w.heap.size
  ng : ¬ T g
def RefIn (w : World) (T : Nat → Prop) (g : Nat) (x : Win) : Prop := ∃ A c, RefAt w T g x A c

theorem RefAt.lt {w : World} {T : Nat → Prop} {g : Nat} {x : Win} {A : Option Addr} {c : Nat} (h : RefAt w T g x A c) : g < w.heap.size := h.blk.lt

theorem IsSl.gby {α : Type} {R : Rep α} {w w' : World} {T : Nat → Prop} {g : Nat} {A : Option Addr} {n : Nat} {l : List α} (h : IsSl R w T A n l) (gr : w.grownBy w' (some g)) (hT : ∀ k, T k → k < w.heap.size) (ng : ¬ T g) : IsSl R w' T A n l :=
  h.keep fun p hp => World.cell?_of_block (gr.block _ (hT _ hp) (fun e => ng (by injection e with e; rw [← e]; exact hp)))

theorem RefAt.put {w w' : World} {T : Nat → Prop} {g : Nat} {x x' : Win} {A : Option Addr} {c : Nat} (h : RefAt w T g x A c) (gr : w.grownBy w' (some g)) (hr : x'.rows = x.rows)
    (hb : Blk w' g [.int .i64 x'.n, .int .i64 x'.state, .int .i64 x'.id, .int .i64 x'.table, .int .i64 x'.mark, .int .i64 x'.after, .int .i64 x'.cursor, .bool x'.last, .slice A x'.rows.length c]) : RefAt w' T g x' A c :=
  ⟨hb, by rw [hr]; exact h.rows.gby gr h.hT h.ng, fun k hk => Nat.lt_of_lt_of_le (h.hT k hk) gr.size, h.ng⟩
theorem RefAt.below {w w' : World} {T : Nat → Prop} {g : Nat} {x : Win} {A : Option Addr} {c : Nat} (h : RefAt w T g x A c) (hb : Below w.heap.size w w') : RefAt w' T g x A c :=
  ⟨h.blk.after hb, h.rows.keep fun p hp => hb.cell (h.hT _ hp), fun k hk => Nat.lt_of_lt_of_le (h.hT k hk) hb.size, h.ng⟩
theorem RefIn.below {w w' : World} {T : Nat → Prop} {g : Nat} {x : Win} (h : RefIn w T g x) (hb : Below w.heap.size w w') : RefIn w' T g x := by
  obtain ⟨A, c, h⟩ := h; exact ⟨A, c, h.below hb⟩
theorem RefIn.rest {w w' : World} {S T : Nat → Prop} {g : Nat} {x : Win} (h : RefIn w T g x) (hr : Rest S w w') (hT : ∀ k, T k → S k) (hg : S g) : RefIn w' T g x := by
  obtain ⟨A, c, h⟩ := h
  exact ⟨A, c, h.blk.rest hr hg, h.rows.rest hr hT, fun k hk => Nat.lt_of_lt_of_le (h.hT k hk) hr.size, h.ng⟩

theorem refnew {w : World} {t : TypeId} (n : Int) (T : Nat → Prop) (hT : ∀ k, T k → k < w.heap.size) : RefIn (w.alloc (.cells #[.int .i64 n, .int .i64 0, .int .i64 0, .int .i64 0, .int .i64 0, .int .i64 0, .int .i64 0, .bool false, .slice none 0 0] t)) T w.heap.size (win0 n) :=
  ⟨none, 0, Blk.new rfl rfl, IsSl.nil, fun k hk => Nat.lt_of_lt_of_le (hT k hk) (by simp), fun h => Nat.lt_irrefl _ (hT _ h)⟩

set_option maxHeartbeats 4000000 in
set_option maxRecDepth 100000 in
theorem refWinOpen_any (g : Nat) (T : Nat → Prop) (x : Win) (mark id table after : Int) (w : World) (h : RefIn w T g x) :
    Calls Try.prog 99 #[.pointer (some ⟨g, 0, none⟩), .int .i64 mark, .int .i64 id, .int .i64 table, .int .i64 after] w fun e w' => e = .returned (.bool (x.openOk mark id table after)) ∧ RefIn w' T g (x.opened mark id table after) ∧ w.grownBy w' (some g) := by
  have H := Lib.hid h
  obtain ⟨A, c, h⟩ := h
  obtain ⟨c0, c1, c2, c3, c4, c5, c6, c7, c8, cz⟩ := h.blk.c9
  have HA := Lib.hid h
  have hgl := h.lt
  clear h
  obtain ⟨xm, xa, xi, xt, xr, xc, xl, xn, xs⟩ := x
  dsimp only at c0 c1 c2 c3 c4 c5 c6 c7 c8
  by_cases h0 : ¬ (xs = 0)
  · have HF := Lib.hid (show Win.openOk ⟨xm, xa, xi, xt, xr, xc, xl, xn, xs⟩ mark id table after = false from decide_eq_false (fun h => h0 h.1))
    have d0 : (xs == 0) = false := by simpa using h0
    have d0n : (xs != 0) = true := by simpa using h0
    have d0d : decide (xs = 0) = false := decide_eq_false h0
    clear h0
    go_enter Try.func99, Try.ntmps99
    go_wp2
    go_ret
    unfold Win.opened
    rw [HF.out]
    exact ⟨rfl, H.out, (World.grownBy.refl w _)⟩
  obtain rfl : xs = 0 := Classical.byContradiction h0
  clear h0
  by_cases h1 : ¬ (1 ≤ mark)
  · have HF := Lib.hid (show Win.openOk ⟨xm, xa, xi, xt, xr, xc, xl, xn, 0⟩ mark id table after = false from decide_eq_false (fun h => h1 h.2.1))
    have d1 : decide (mark < 1) = true := decide_eq_true (by omega)
    clear h1
    go_enter Try.func99, Try.ntmps99
    go_wp2
    go_ret
    unfold Win.opened
    rw [HF.out]
    exact ⟨rfl, H.out, (World.grownBy.refl w _)⟩
  replace h1 : 1 ≤ mark := Classical.byContradiction h1
  have d1 : decide (mark < 1) = false := decide_eq_false (by omega)
  by_cases h2 : ¬ (mark ≤ 1099511627776)
  · have HF := Lib.hid (show Win.openOk ⟨xm, xa, xi, xt, xr, xc, xl, xn, 0⟩ mark id table after = false from decide_eq_false (fun h => h2 h.2.2.1))
    have d2 : decide (1099511627776 < mark) = true := decide_eq_true (by omega)
    clear h2
    go_enter Try.func99, Try.ntmps99
    go_wp2
    go_ret
    unfold Win.opened
    rw [HF.out]
    exact ⟨rfl, H.out, (World.grownBy.refl w _)⟩
  replace h2 : mark ≤ 1099511627776 := Classical.byContradiction h2
  have d2 : decide (1099511627776 < mark) = false := decide_eq_false (by omega)
  by_cases h3 : ¬ (1 ≤ id)
  · have HF := Lib.hid (show Win.openOk ⟨xm, xa, xi, xt, xr, xc, xl, xn, 0⟩ mark id table after = false from decide_eq_false (fun h => h3 h.2.2.2.1))
    have d3 : decide (id < 1) = true := decide_eq_true (by omega)
    clear h3
    go_enter Try.func99, Try.ntmps99
    go_wp2
    go_ret
    unfold Win.opened
    rw [HF.out]
    exact ⟨rfl, H.out, (World.grownBy.refl w _)⟩
  replace h3 : 1 ≤ id := Classical.byContradiction h3
  have d3 : decide (id < 1) = false := decide_eq_false (by omega)
  by_cases h4 : ¬ (id ≤ 64)
  · have HF := Lib.hid (show Win.openOk ⟨xm, xa, xi, xt, xr, xc, xl, xn, 0⟩ mark id table after = false from decide_eq_false (fun h => h4 h.2.2.2.2.1))
    have d4 : decide (64 < id) = true := decide_eq_true (by omega)
    clear h4
    go_enter Try.func99, Try.ntmps99
    go_wp2
    go_ret
    unfold Win.opened
    rw [HF.out]
    exact ⟨rfl, H.out, (World.grownBy.refl w _)⟩
  replace h4 : id ≤ 64 := Classical.byContradiction h4
  have d4 : decide (64 < id) = false := decide_eq_false (by omega)
  by_cases h5 : ¬ (0 ≤ table)
  · have HF := Lib.hid (show Win.openOk ⟨xm, xa, xi, xt, xr, xc, xl, xn, 0⟩ mark id table after = false from decide_eq_false (fun h => h5 h.2.2.2.2.2.1))
    have d5 : decide (table < 0) = true := decide_eq_true (by omega)
    clear h5
    go_enter Try.func99, Try.ntmps99
    go_wp2
    go_ret
    unfold Win.opened
    rw [HF.out]
    exact ⟨rfl, H.out, (World.grownBy.refl w _)⟩
  replace h5 : 0 ≤ table := Classical.byContradiction h5
  have d5 : decide (table < 0) = false := decide_eq_false (by omega)
  by_cases h6 : ¬ (table < 8)
  · have HF := Lib.hid (show Win.openOk ⟨xm, xa, xi, xt, xr, xc, xl, xn, 0⟩ mark id table after = false from decide_eq_false (fun h => h6 h.2.2.2.2.2.2.1))
    have d6 : decide (8 ≤ table) = true := decide_eq_true (by omega)
    clear h6
    go_enter Try.func99, Try.ntmps99
    go_wp2
    go_ret
    unfold Win.opened
    rw [HF.out]
    exact ⟨rfl, H.out, (World.grownBy.refl w _)⟩
  replace h6 : table < 8 := Classical.byContradiction h6
  have d6 : decide (8 ≤ table) = false := decide_eq_false (by omega)
  by_cases h7 : ¬ (0 ≤ after)
  · have HF := Lib.hid (show Win.openOk ⟨xm, xa, xi, xt, xr, xc, xl, xn, 0⟩ mark id table after = false from decide_eq_false (fun h => h7 h.2.2.2.2.2.2.2.1))
    have d7 : decide (after < 0) = true := decide_eq_true (by omega)
    clear h7
    go_enter Try.func99, Try.ntmps99
    go_wp2
    go_ret
    unfold Win.opened
    rw [HF.out]
    exact ⟨rfl, H.out, (World.grownBy.refl w _)⟩
  replace h7 : 0 ≤ after := Classical.byContradiction h7
  have d7 : decide (after < 0) = false := decide_eq_false (by omega)
  by_cases h8 : ¬ (after ≤ 1099511627776)
  · have HF := Lib.hid (show Win.openOk ⟨xm, xa, xi, xt, xr, xc, xl, xn, 0⟩ mark id table after = false from decide_eq_false (fun h => h8 h.2.2.2.2.2.2.2.2))
    have d8 : decide (1099511627776 < after) = true := decide_eq_true (by omega)
    clear h8
    go_enter Try.func99, Try.ntmps99
    go_wp2
    go_ret
    unfold Win.opened
    rw [HF.out]
    exact ⟨rfl, H.out, (World.grownBy.refl w _)⟩
  replace h8 : after ≤ 1099511627776 := Classical.byContradiction h8
  have d8 : decide (1099511627776 < after) = false := decide_eq_false (by omega)
  have HT := Lib.hid (show Win.openOk ⟨xm, xa, xi, xt, xr, xc, xl, xn, 0⟩ mark id table after = true from decide_eq_true ⟨rfl, h1, h2, h3, h4, h5, h6, h7, h8⟩)
  clear h1 h2 h3 h4 h5 h6 h7 h8
  go_enter Try.func99, Try.ntmps99
  go_wp2
  go_ret
  unfold Win.opened
  rw [HT.out]
  refine ⟨rfl, ⟨none, 0, ?_, IsSl.nil, ?_, HA.out.ng⟩, ?_⟩
  · exact (((((((((HA.out.blk.put (j := 0) (by simp) _ rfl).put (j := 1) (by simp) _ rfl).put (j := 2) (by simp) _ rfl).put (j := 3) (by simp) _ rfl).put (j := 4) (by simp) _ rfl).put (j := 5) (by simp) _ rfl).put (j := 6) (by simp) _ rfl).put (j := 7) (by simp) _ rfl).put (j := 8) (by simp) _ rfl)
  · intro k hk; simpa using HA.out.hT k hk
  · exact (gset (gset (gset (gset (gset (gset (gset (gset (gset (World.grownBy.refl w _) 0 _) 1 _) 2 _) 3 _) 4 _) 5 _) 6 _) 7 _) 8 _)
set_option maxHeartbeats 4000000 in
set_option maxRecDepth 100000 in
theorem refshut_any (g : Nat) (T : Nat → Prop) (x : Win)  (w : World) (h : RefIn w T g x) :
    Calls Try.prog 103 #[.pointer (some ⟨g, 0, none⟩)] w fun e w' => e = .returned (.bool (decide (x.state = 2))) ∧ RefIn w' T g x.shut ∧ w.grownBy w' (some g) := by
  have H := Lib.hid h
  obtain ⟨A, c, h⟩ := h
  obtain ⟨c0, c1, c2, c3, c4, c5, c6, c7, c8, cz⟩ := h.blk.c9
  have HA := Lib.hid h
  have hgl := h.lt
  clear h
  obtain ⟨xm, xa, xi, xt, xr, xc, xl, xn, xs⟩ := x
  dsimp only at c0 c1 c2 c3 c4 c5 c6 c7 c8
  dsimp only
  by_cases h0 : xs = 2
  · subst h0
    rw [show decide ((2 : Int) = 2) = true from rfl, show Win.shut ⟨xm, xa, xi, xt, xr, xc, xl, xn, 2⟩ = ⟨xm, xa, xi, xt, xr, xc, xl, xn, 3⟩ from if_pos rfl]
    go_enter Try.func103, Try.ntmps103
    go_wp2
    go_ret
    exact ⟨rfl, ⟨A, c, HA.out.put (gset (World.grownBy.refl w _) 1 _) rfl (HA.out.blk.put (j := 1) (by simp) _ rfl)⟩, gset (World.grownBy.refl w _) 1 _⟩
  · rw [decide_eq_false h0, show Win.shut ⟨xm, xa, xi, xt, xr, xc, xl, xn, xs⟩ = ⟨xm, xa, xi, xt, xr, xc, xl, xn, xs⟩ from if_neg h0]
    have d0 : (xs == 2) = false := by simpa using h0
    have d0n : (xs != 2) = true := by simpa using h0
    have d0d : decide (xs = 2) = false := decide_eq_false h0
    clear h0
    go_enter Try.func103, Try.ntmps103
    go_wp2
    go_ret
    exact ⟨rfl, H.out, (World.grownBy.refl w _)⟩
set_option maxHeartbeats 4000000 in
set_option maxRecDepth 100000 in
theorem reflow_any (g : Nat) (T : Nat → Prop) (x : Win) (mark : Int) (w : World) (h : RefIn w T g x) :
    Calls Try.prog 107 #[.pointer (some ⟨g, 0, none⟩), .int .i64 mark] w fun e w' => e = .returned (.bool (decide (x.state = 3 ∧ mark = x.mark))) ∧ RefIn w' T g (x.low mark) ∧ w.grownBy w' (some g) := by
  have H := Lib.hid h
  obtain ⟨A, c, h⟩ := h
  obtain ⟨c0, c1, c2, c3, c4, c5, c6, c7, c8, cz⟩ := h.blk.c9
  have HA := Lib.hid h
  have hgl := h.lt
  clear h
  obtain ⟨xm, xa, xi, xt, xr, xc, xl, xn, xs⟩ := x
  dsimp only at c0 c1 c2 c3 c4 c5 c6 c7 c8
  dsimp only
  by_cases h0 : xs = 3
  · subst h0
    by_cases h1 : mark = xm
    · subst h1
      rw [show decide ((3 : Int) = 3 ∧ mark = mark) = true from decide_eq_true ⟨rfl, rfl⟩, show Win.low ⟨mark, xa, xi, xt, xr, xc, xl, xn, 3⟩ mark = ⟨mark, xa, xi, xt, xr, xc, xl, xn, 4⟩ from if_pos ⟨rfl, rfl⟩]
      go_enter Try.func107, Try.ntmps107
      go_wp2
      go_ret
      exact ⟨rfl, ⟨A, c, HA.out.put (gset (World.grownBy.refl w _) 1 _) rfl (HA.out.blk.put (j := 1) (by simp) _ rfl)⟩, gset (World.grownBy.refl w _) 1 _⟩
    · rw [show decide ((3 : Int) = 3 ∧ mark = xm) = false from decide_eq_false (fun h => h1 h.2), show Win.low ⟨xm, xa, xi, xt, xr, xc, xl, xn, 3⟩ mark = ⟨xm, xa, xi, xt, xr, xc, xl, xn, 3⟩ from if_neg (fun h => h1 h.2)]
      have d1 : (mark == xm) = false := by simpa using h1
      have d1n : (mark != xm) = true := by simpa using h1
      have d1d : decide (mark = xm) = false := decide_eq_false h1
      clear h1
      go_enter Try.func107, Try.ntmps107
      go_wp2
      go_ret
      exact ⟨rfl, H.out, (World.grownBy.refl w _)⟩
  · rw [show decide (xs = 3 ∧ mark = xm) = false from decide_eq_false (fun h => h0 h.1), show Win.low ⟨xm, xa, xi, xt, xr, xc, xl, xn, xs⟩ mark = ⟨xm, xa, xi, xt, xr, xc, xl, xn, xs⟩ from if_neg (fun h => h0 h.1)]
    have d0 : (xs == 3) = false := by simpa using h0
    have d0n : (xs != 3) = true := by simpa using h0
    have d0d : decide (xs = 3) = false := decide_eq_false h0
    clear h0
    go_enter Try.func107, Try.ntmps107
    go_wp2
    go_ret
    exact ⟨rfl, H.out, (World.grownBy.refl w _)⟩
set_option maxHeartbeats 4000000 in
set_option maxRecDepth 100000 in
theorem refwaits_any {TA TB : Option Addr} {tn tc tm td : Nat} (g : Nat) (T : Nat → Prop) (x : Win) (lsn kind mark : Int) (w : World) (h : RefIn w T g x) :
    Calls Try.prog 46 #[.pointer (some ⟨g, 0, none⟩), .agg #[.int .i64 lsn, .int .i64 kind, .slice TA tn tc, .slice TB tm td, .int .i64 mark]] w fun e w' => e = .returned (.bool (x.waits kind mark)) ∧ Below w.heap.size w w' := by
  have H := Lib.hid h
  obtain ⟨A, c, h⟩ := h
  obtain ⟨c0, c1, c2, c3, c4, c5, c6, c7, c8, cz⟩ := h.blk.c9
  have HA := Lib.hid h
  have hgl := h.lt
  clear h
  obtain ⟨xm, xa, xi, xt, xr, xc, xl, xn, xs⟩ := x
  dsimp only at c0 c1 c2 c3 c4 c5 c6 c7 c8
  obtain ⟨W, hW⟩ : ∃ W, W = w.alloc (.cells #[.int .i64 lsn, .int .i64 kind, .slice TA tn tc, .slice TB tm td, .int .i64 mark] 68) := ⟨_, rfl⟩
  have B1 := Lib.hid (show Below w.heap.size w W by rw [hW]; exact (Below.refl _ _).alloc (Nat.le_refl _) _)
  have q1 : W.cell? ⟨w.heap.size, 1, none⟩ = some (.int .i64 kind) := by rw [hW]; exact World.cell?_alloc_at _ _ _ _ rfl
  have q4 : W.cell? ⟨w.heap.size, 4, none⟩ = some (.int .i64 mark) := by rw [hW]; exact World.cell?_alloc_at _ _ _ _ rfl
  have k1 : W.cell? ⟨g, 1, none⟩ = some (.int .i64 xs) := (B1.out.cell hgl).trans c1
  have k4 : W.cell? ⟨g, 4, none⟩ = some (.int .i64 xm) := (B1.out.cell hgl).trans c4
  clear c0 c1 c2 c3 c4 c5 c6 c7 c8 cz
  have HW := Lib.hid hW
  clear hW
  have hcases : ¬ kind = 2 ∨ (kind = 2 ∧ xs = 1 ∧ mark = xm) ∨ (kind = 2 ∧ xs = 1 ∧ ¬ mark = xm) ∨ (kind = 2 ∧ ¬ xs = 1 ∧ xs = 2 ∧ mark = xm) ∨ (kind = 2 ∧ ¬ xs = 1 ∧ xs = 2 ∧ ¬ mark = xm) ∨ (kind = 2 ∧ ¬ xs = 1 ∧ ¬ xs = 2) := by omega
  rcases hcases with h1 | ⟨h1, h3, h2⟩ | ⟨h1, h3, h2⟩ | ⟨h1, h3, h4, h2⟩ | ⟨h1, h3, h4, h2⟩ | ⟨h1, h3, h4⟩
  · have HF := Lib.hid (show Win.waits ⟨xm, xa, xi, xt, xr, xc, xl, xn, xs⟩ kind mark = false from decide_eq_false (fun h => h1 h.1))
    have dh1 : (kind == 2) = false := by simpa using h1
    have dh1d : decide (kind = 2) = false := decide_eq_false h1
    clear h1
    go_enter Try.func46, Try.ntmps46
    go_wp2_with fail
    rw [← HW.out]
    go_quiet (fail)
    go_wp2
    go_ret
    rw [HF.out]
    exact ⟨rfl, below_drewN B1.out _⟩
  · have HF := Lib.hid (show Win.waits ⟨xm, xa, xi, xt, xr, xc, xl, xn, xs⟩ kind mark = true from decide_eq_true ⟨h1, h2, .inl h3⟩)
    subst h1 h2 h3
    go_enter Try.func46, Try.ntmps46
    go_wp2_with fail
    rw [← HW.out]
    go_quiet (fail)
    go_wp2
    go_ret
    rw [HF.out]
    exact ⟨rfl, below_drewN B1.out _⟩
  · have HF := Lib.hid (show Win.waits ⟨xm, xa, xi, xt, xr, xc, xl, xn, xs⟩ kind mark = false from decide_eq_false (fun h => h2 h.2.1))
    subst h1 h3
    have dh2 : (mark == xm) = false := by simpa using h2
    have dh2d : decide (mark = xm) = false := decide_eq_false h2
    clear h2
    go_enter Try.func46, Try.ntmps46
    go_wp2_with fail
    rw [← HW.out]
    go_quiet (fail)
    go_wp2
    go_ret
    rw [HF.out]
    exact ⟨rfl, below_drewN B1.out _⟩
  · have HF := Lib.hid (show Win.waits ⟨xm, xa, xi, xt, xr, xc, xl, xn, xs⟩ kind mark = true from decide_eq_true ⟨h1, h2, .inr h4⟩)
    subst h1 h2 h4
    clear h3
    go_enter Try.func46, Try.ntmps46
    go_wp2_with fail
    rw [← HW.out]
    go_quiet (fail)
    go_wp2
    go_ret
    rw [HF.out]
    exact ⟨rfl, below_drewN B1.out _⟩
  · have HF := Lib.hid (show Win.waits ⟨xm, xa, xi, xt, xr, xc, xl, xn, xs⟩ kind mark = false from decide_eq_false (fun h => h2 h.2.1))
    subst h1 h4
    clear h3
    have dh2 : (mark == xm) = false := by simpa using h2
    have dh2d : decide (mark = xm) = false := decide_eq_false h2
    clear h2
    go_enter Try.func46, Try.ntmps46
    go_wp2_with fail
    rw [← HW.out]
    go_quiet (fail)
    go_wp2
    go_ret
    rw [HF.out]
    exact ⟨rfl, below_drewN B1.out _⟩
  · have HF := Lib.hid (show Win.waits ⟨xm, xa, xi, xt, xr, xc, xl, xn, xs⟩ kind mark = false from decide_eq_false (fun h => h.2.2.elim h3 h4))
    subst h1
    have dh3 : (xs == 1) = false := by simpa using h3
    have dh3d : decide (xs = 1) = false := decide_eq_false h3
    have dh4 : (xs == 2) = false := by simpa using h4
    have dh4d : decide (xs = 2) = false := decide_eq_false h4
    clear h3 h4
    go_enter Try.func46, Try.ntmps46
    go_wp2_with fail
    rw [← HW.out]
    go_quiet (fail)
    go_wp2
    go_ret
    rw [HF.out]
    exact ⟨rfl, below_drewN B1.out _⟩

theorem refplan_any (A : Option Addr) (n c : Nat) (l : List Row) (after k : Int) (w : World) (S : Nat → Prop) (h : IsSl rowRep w S A n l) (hm : n ≤ maxLen) :
    Calls Try.prog 141 #[.int .i64 after, .int .i64 k, .slice A n c] w fun e w' => e = .returned (.tuple #[.int .i64 (lastKey l after), .bool (decide ((n : Int) < k))]) ∧ w = w' := by
  unfold maxLen at hm
  by_cases h0 : 0 < n
  · obtain ⟨b, off, x, cs, rfl, _, hx, ⟨rfl, _⟩, hc⟩ := h.at_ (k := n - 1) (by omega)
    have hc0 := hc 0 _ rfl
    have hl := lastKey_at after (by rw [← h.len]; omega) hx
    have hcell : w.cell? ⟨b, off + (n - 1) * 2, none⟩ = some (.int .i64 (lastKey l after)) := by rw [hl]; exact hc0
    have h1 : (0 : Int) < (n : Int) := by omega
    clear hl hc0 hc hx h
    go_enter Try.func141, Try.ntmps141
    go_wp2
    go_ret2
    exact ⟨rfl, rfl⟩
  · obtain rfl : n = 0 := by omega
    have : l = [] := List.eq_nil_of_length_eq_zero (by rw [← h.len])
    subst this
    go_enter Try.func141, Try.ntmps141
    go_wp2
    go_ret2
    exact ⟨rfl, rfl⟩
end Go.Proofs.Ythhpddiicnjmmaa

set_option linter.unusedVariables false
set_option linter.unusedSimpArgs false
namespace Go.Proofs.Ythhpddiicnjmmaa
open Go.RowKit

theorem RefAt.more {w : World} {T T' : Nat → Prop} {g : Nat} {x : Win} {A : Option Addr} {c : Nat} (h : RefAt w T g x A c) (hT : ∀ k, T k → T' k) (hs : ∀ k, T' k → k < w.heap.size) (ng : ¬ T' g) : RefAt w T' g x A c := ⟨h.blk, h.rows.weak hT, hs, ng⟩
theorem RefIn.more {w : World} {T T' : Nat → Prop} {g : Nat} {x : Win} (h : RefIn w T g x) (hT : ∀ k, T k → T' k) (hs : ∀ k, T' k → k < w.heap.size) (ng : ¬ T' g) : RefIn w T' g x := by
  obtain ⟨A, c, h⟩ := h; exact ⟨A, c, h.more hT hs ng⟩
/-- What is new may lie there too. -/
theorem RefIn.news {w' : World} {T : Nat → Prop} {g : Nat} {x : Win} {B : Nat} (h : RefIn w' T g x) (hg : g < B) : RefIn w' (fun k => T k ∨ (B ≤ k ∧ k < w'.heap.size)) g x := by
  obtain ⟨A, c, h⟩ := h
  exact ⟨A, c, h.more (fun k hk => .inl hk) (fun k hk => hk.elim (h.hT k) (·.2)) (fun e => e.elim h.ng (fun e => Nat.lt_irrefl _ (Nat.lt_of_lt_of_le hg e.1)))⟩
theorem RefIn.lt {w : World} {T : Nat → Prop} {g : Nat} {x : Win} (h : RefIn w T g x) : g < w.heap.size := by obtain ⟨_, _, h⟩ := h; exact h.lt

set_option maxHeartbeats 4000000 in
set_option maxRecDepth 100000 in
theorem reffill_any (g : Nat) (T : Nat → Prop) (x : Win) (A : Option Addr) (n c : Nat) (l : List Row) (w : World) (h : RefIn w T g x) (U : Nat → Prop) (hU : ∀ k, U k → k < w.heap.size) (hgU : ¬ U g) (hl : IsSl rowRep w U A n l) (hn : x.n ≤ 64) (hm : n ≤ maxLen) :
    Calls Try.prog 101 #[.pointer (some ⟨g, 0, none⟩), .slice A n c] w fun e w' => e = .returned (.bool (x.fillOk l)) ∧ RefIn w' (fun k => T k ∨ (w.heap.size ≤ k ∧ k < w'.heap.size)) g (x.filled l) ∧ w.grownBy w' (some g) := by
  have hgl0 := h.lt
  have H := Lib.hid (show RefIn w (fun k => T k ∨ (w.heap.size ≤ k ∧ k < w.heap.size)) g x from h.news hgl0)
  obtain ⟨Ax, cx, h⟩ := h
  obtain ⟨c0, c1, c2, c3, c4, c5, c6, c7, c8, cz⟩ := h.blk.c9
  have HA := Lib.hid h
  have HL := Lib.hid hl
  have HN := Lib.hid hl.len
  have hgl := h.lt
  have HU := Lib.hid hU
  clear h hl hU hgl0
  obtain ⟨xm, xa, xi, xt, xr, xc, xl, xn, xs⟩ := x
  dsimp only at c0 c1 c2 c3 c4 c5 c6 c7 c8 hn
  by_cases h0 : ¬ xs = 1
  · rw [show Win.fillOk ⟨xm, xa, xi, xt, xr, xc, xl, xn, xs⟩ l = false from by unfold Win.fillOk; dsimp only; rw [decide_eq_false (fun h => h0 h.1)]; rfl, show Win.filled ⟨xm, xa, xi, xt, xr, xc, xl, xn, xs⟩ l = ⟨xm, xa, xi, xt, xr, xc, xl, xn, xs⟩ from if_neg (by unfold Win.fillOk; dsimp only; rw [decide_eq_false (fun h => h0 h.1)]; exact Bool.false_ne_true)]
    have d0 : (xs == 1) = false := by simpa using h0
    have d0n : (xs != 1) = true := by simpa using h0
    have d0d : decide (xs = 1) = false := decide_eq_false h0
    clear h0
    go_enter Try.func101, Try.ntmps101
    go_wp2
    go_ret
    exact ⟨rfl, H.out, World.grownBy.refl w _⟩
  obtain rfl : xs = 1 := Classical.byContradiction h0
  clear h0
  by_cases h1 : ¬ ((n : Int) ≤ xn)
  · rw [show Win.fillOk ⟨xm, xa, xi, xt, xr, xc, xl, xn, 1⟩ l = false from by unfold Win.fillOk; dsimp only; rw [decide_eq_false (fun h => h1 (by rw [HN.out]; exact h.2))]; rfl, show Win.filled ⟨xm, xa, xi, xt, xr, xc, xl, xn, 1⟩ l = ⟨xm, xa, xi, xt, xr, xc, xl, xn, 1⟩ from if_neg (by unfold Win.fillOk; dsimp only; rw [decide_eq_false (fun h => h1 (by rw [HN.out]; exact h.2))]; exact Bool.false_ne_true)]
    have d1 : decide (xn < (n : Int)) = true := decide_eq_true (by omega)
    clear h1
    go_enter Try.func101, Try.ntmps101
    go_wp2
    go_ret
    exact ⟨rfl, H.out, World.grownBy.refl w _⟩
  replace h1 : (n : Int) ≤ xn := Classical.byContradiction h1
  have d1 : decide (xn < (n : Int)) = false := decide_eq_false (by omega)
  have hn64 : n ≤ 64 := by omega
  have H1 := Lib.hid h1
  clear h1
  obtain ⟨i0, hi, hz0, hz1, hz2⟩ := info_parts info_row
  go_enter Try.func101, Try.ntmps101
  go_wp2_with fail
  go_loop [5, 6] (fun k i => ∃ p : Nat, i = .int .i64 p ∧ p ≤ n ∧ k = .int .i64 (lastKey (l.take p) xa) ∧ rising xa (l.take p) = true) (fun _ i => n - (intOf i).toNat)
  case atStart => exact ⟨0, rfl, Nat.zero_le _, by simp [lastKey_nil], by simp [rising]⟩
  case round =>
    obtain ⟨p, rfl, hp, rfl, hris⟩ := hrel
    have HR := Lib.hid hris
    clear hris
    by_cases hlt : p < n
    · have hd : decide ((p : Int) < (n : Int)) = true := decide_eq_true (by omega)
      have hpi : (p : Int) < (n : Int) := by omega
      obtain ⟨b0, off, x, rfl, hbT, hx, hwf, k0, k1⟩ := HL.out.row hlt (fun q hq => rfl)
      have HTK := Lib.hid (show l.take (p + 1) = l.take p ++ [x] from take_snoc hx)
      obtain ⟨xk, xv⟩ := x
      dsimp only at k0 k1
      obtain ⟨q, hq⟩ : ∃ q, q = lastKey (l.take p) xa := ⟨_, rfl⟩
      rw [← hq]
      have HQ := Lib.hid hq
      clear hq hx
      by_cases g1 : q < xk
      · have e1 : decide (xk ≤ q) = false := decide_eq_false (by omega)
        by_cases g2 : xk ≤ 1099511627776
        · have e2 : decide (1099511627776 < xk) = false := decide_eq_false (by omega)
          go_wp2
          go_round
          case rel => exact ⟨p + 1, by go_num, by omega, by rw [HTK.out, lastKey_snoc], by rw [HTK.out, rising_snoc, HR.out, ← HQ.out, decide_eq_true ⟨g1, g2⟩]; rfl⟩
          case measure => simp [intOf]; omega
        · have e2 : decide (1099511627776 < xk) = true := decide_eq_true (by omega)
          have HF := Lib.hid (show Win.fillOk ⟨xm, xa, xi, xt, xr, xc, xl, xn, 1⟩ l = false by
            unfold Win.fillOk
            dsimp only
            rw [rising_take (p := p + 1) (by rw [HTK.out, rising_snoc, HR.out, decide_eq_false (fun h => g2 h.2)]; rfl), Bool.and_false])
          go_wp2
          go_ret
          unfold Win.filled
          rw [HF.out]
          exact ⟨rfl, H.out, World.grownBy.refl w _⟩
      · have e1 : decide (xk ≤ q) = true := decide_eq_true (by omega)
        have HF := Lib.hid (show Win.fillOk ⟨xm, xa, xi, xt, xr, xc, xl, xn, 1⟩ l = false by
          unfold Win.fillOk
          dsimp only
          rw [rising_take (p := p + 1) (by rw [HTK.out, rising_snoc, HR.out, ← HQ.out, decide_eq_false (fun h => g1 h.1)]; rfl), Bool.and_false])
        go_wp2
        go_ret
        unfold Win.filled
        rw [HF.out]
        exact ⟨rfl, H.out, World.grownBy.refl w _⟩
    · obtain rfl : p = n := by omega
      have hd : decide ((p : Int) < (p : Int)) = false := by simp
      have HOK := Lib.hid (show Win.fillOk ⟨xm, xa, xi, xt, xr, xc, xl, xn, 1⟩ l = true by
        have := HR.out
        rw [List.take_of_length_le (by rw [← HN.out]; exact Nat.le_refl _)] at this
        unfold Win.fillOk
        dsimp only
        rw [this, decide_eq_true ⟨rfl, by rw [← HN.out]; exact H1.out⟩]
        rfl)
      obtain ⟨WA, hWA⟩ : ∃ WA, WA = w.setCell ⟨g, 1, none⟩ (.int .i64 2) := ⟨_, rfl⟩
      have GA := Lib.hid (show w.grownBy WA (some g) by rw [hWA]; exact gset (World.grownBy.refl w _) 1 _)
      have KA := Lib.hid (show Blk WA g [.int .i64 xn, .int .i64 2, .int .i64 xi, .int .i64 xt, .int .i64 xm, .int .i64 xa, .int .i64 xc, .bool xl, .slice Ax xr.length cx] by rw [hWA]; exact HA.out.blk.put (j := 1) (by simp) _ rfl)
      have HWA := Lib.hid hWA
      have hsA : WA.heap.size = w.heap.size := by rw [hWA]; simp
      have LA := Lib.hid (show IsSl rowRep WA U A p l from HL.out.gby GA.out HU.out hgU)
      have BB := Lib.hid (show Below WA.heap.size WA (WA.alloc (.cells #[] 80)) from (Below.refl _ _).alloc (Nat.le_refl _) _)
      have HS := Lib.hid (show ∀ S, Src rowRep (WA.alloc (.cells #[] 80)) S A p l from fun S => LA.out.srcK flat_row (fun q hq => BB.out.cell (by have := HU.out _ hq; omega)))
      obtain ⟨a0, a1, a2, a3, a4, a5, a6, a7, a8, az⟩ := KA.out.c9
      have HSA := Lib.hid hsA
      clear hWA hsA
      go_upto_region 11 with fail
      rw [← HWA.out]
      clear c0 c1 c2 c3 c4 c5 c6 c7 c8 cz
      go_upto_region 12 with (first
        | (at_builtin; refine wpList_append_Own _ rfl _ _ 81 rfl WA.heap.size 80 i0 _ 24 Try.underlying81 hi hz0 hz1 hz2 rfl (R := rowRep) (S := fun _ => False) (l := []) (l' := l) (.slice (some ⟨WA.heap.size, 0, none⟩) 0 0) rfl (Own.nil _ _ _ (fun _ h => h.elim) _ _) A p c rfl (HS.out _) (by simp [maxLen]; omega) (by simp; omega) (by omega) (by simp) ?_; intro v1 w1 own1 gr1 at1; have bel1 := BB.out.grown gr1 (by simp) (by intro k hk; simp [rowOf] at hk); simp only [List.nil_append] at own1; obtain ⟨Av, cv, rfl, _, _, _⟩ := own1.isSlB; have OW1 := Lib.hid own1; have B1 := Lib.hid bel1; have K1 := Lib.hid (KA.out.after bel1); obtain ⟨a0, a1, a2, a3, a4, a5, a6, a7, a8, az⟩ := K1.out.c9; clear gr1 at1 own1 bel1)
        | fail)
      obtain ⟨W2, hW2⟩ : ∃ W2, W2 = w1.setCell ⟨g, 8, none⟩ (.slice Av l.length cv) := ⟨_, rfl⟩
      have G2 := Lib.hid (show w.grownBy W2 (some g) by rw [hW2]; exact gset (grown_trans GA.out (grown_of_below B1.out _)) 8 _)
      have K2 := Lib.hid (show Blk W2 g [.int .i64 xn, .int .i64 2, .int .i64 xi, .int .i64 xt, .int .i64 xm, .int .i64 xa, .int .i64 xc, .bool xl, .slice Av l.length cv] by rw [hW2]; exact K1.out.put (j := 8) (by simp) _ rfl)
      have hgA : g < WA.heap.size := by have := HSA.out; omega
      have O2 := Lib.hid (show Own rowRep W2 WA.heap.size (fun _ => False) 80 (.slice Av l.length cv) l by
        rw [hW2]
        exact OW1.out.kept (grown_setB w1 ⟨g, 8, none⟩ _) (fun k hk => ⟨fun e => by injection hk with hk; have h1 := OW1.out.row_ge e; dsimp only at hk; omega, id⟩))
      have L2 := Lib.hid (show IsSl rowRep W2.drew U A p l from HL.out.gby (grown_drew G2.out) HU.out hgU)
      rw [← hW2]
      obtain ⟨k0, k1, k2, k3, k4, k5, k6, k7, k8, kz⟩ := K2.out.c9
      have HPL := Lib.hid (show p ≤ maxLen from hm)
      clear hW2 a0 a1 a2 a3 a4 a5 a6 a7 a8 az
      have KD : ∀ v : Value, (W2.drew.setCell ⟨g, 6, none⟩ v).cell? ⟨g, 5, none⟩ = some (.int .i64 xa) ∧ (W2.drew.setCell ⟨g, 6, none⟩ v).cell? ⟨g, 0, none⟩ = some (.int .i64 xn) := fun v => ⟨((K2.out.drew).put (j := 6) (by simp) v rfl).1 5 _ rfl, ((K2.out.drew).put (j := 6) (by simp) v rfl).1 0 _ rfl⟩
      have KE : ∀ v v2 : Value, ((W2.drew.setCell ⟨g, 6, none⟩ v).setCell ⟨g, 7, none⟩ v2).cell? ⟨g, 5, none⟩ = some (.int .i64 xa) ∧ ((W2.drew.setCell ⟨g, 6, none⟩ v).setCell ⟨g, 7, none⟩ v2).cell? ⟨g, 0, none⟩ = some (.int .i64 xn) := fun v v2 => ⟨(((K2.out.drew).put (j := 6) (by simp) v rfl).put (j := 7) (by simp) v2 rfl).1 5 _ rfl, (((K2.out.drew).put (j := 6) (by simp) v rfl).put (j := 7) (by simp) v2 rfl).1 0 _ rfl⟩
      have HKE := Lib.hid KE
      have HKD := Lib.hid KD
      clear KD KE
      go_region_held3 (fun w' => w'.cell? ⟨g, 5, none⟩ = some (.int .i64 xa) ∧ w'.cell? ⟨g, 0, none⟩ = some (.int .i64 xn)) (first | exact ⟨k5, k0⟩ | exact HKD.out _ | exact HKE.out _ _ | fail)
        (first
        | (go_at_call 141; (with_reducible refine (refplan_any A p c l xa xn _ U L2.out HPL.out).mono ?_); rintro e w' ⟨rfl, rfl⟩)
        | fail)
      go_wp2_with fail
      go_ret
      unfold Win.filled
      rw [HOK.out]
      rw [if_pos rfl]
      dsimp only
      have O3 := Lib.hid (show Own rowRep ((W2.setCell ⟨g, 6, none⟩ (.int .i64 (lastKey l xa))).setCell ⟨g, 7, none⟩ (.bool (decide ((p : Int) < xn)))).drew WA.heap.size (fun _ => False) 80 (.slice Av l.length cv) l from
        ((O2.out.kept (grown_setB W2 ⟨g, 6, none⟩ _) (fun k hk => ⟨fun e => by injection hk with hk; have h1 := O2.out.row_ge e; dsimp only at hk; omega, id⟩)).kept (grown_setB _ ⟨g, 7, none⟩ _) (fun k hk => ⟨fun e => by injection hk with hk; have h1 := O2.out.row_ge e; dsimp only at hk; omega, id⟩)).drew)
      obtain ⟨A9, c9, hv9, _, _, sl9⟩ := O3.out.isSl (S' := fun k => T k ∨ (w.heap.size ≤ k ∧ k < ((W2.setCell ⟨g, 6, none⟩ (.int .i64 (lastKey l xa))).setCell ⟨g, 7, none⟩ (.bool (decide ((p : Int) < xn)))).drew.heap.size)) (fun _ h => h.elim) (fun k h1 h2 => .inr ⟨by have := HSA.out; omega, h2⟩)
      injection hv9 with q1 q2 q3
      subst q1
      refine ⟨rfl, ⟨Av, cv, ?_, sl9, ?_, ?_⟩, grown_drew (gset (gset G2.out 6 _) 7 _)⟩
      · rw [← HN.out]
        have := ((K2.out.put (j := 6) (by simp) (.int .i64 (lastKey l xa)) rfl).put (j := 7) (by simp) (.bool (decide ((p : Int) < xn))) rfl).drew
        rw [← HN.out] at this
        exact this
      · intro k hk
        rcases hk with hk | hk
        · have h1 := HA.out.hT k hk
          have h2 := G2.out.size
          show k < ((W2.setCell _ _).setCell _ _).heap.size
          simp
          omega
        · exact hk.2
      · intro e
        rcases e with e | e
        · exact HA.out.ng e
        · omega
end Go.Proofs.Ythhpddiicnjmmaa

set_option linter.unusedVariables false
set_option linter.unusedSimpArgs false
namespace Go.Proofs.Ythhpddiicnjmmaa
open Go.RowKit

set_option maxHeartbeats 8000000 in
set_option maxRecDepth 100000 in
theorem refsee_any (g : Nat) (T : Nat → Prop) (x : Win) (A : Option Addr) (n c : Nat) (l : List Chg) (w : World) (h : RefIn w T g x) (U : Nat → Prop) (hU : ∀ k, U k → k < w.heap.size) (hl : IsSl chgRep w U A n l) (hn : x.rows.length ≤ 100000) (hm : n ≤ 1000000) :
    Calls Try.prog 143 #[.pointer (some ⟨g, 0, none⟩), .slice A n c] w fun e w' => e = .returned (.int .i64 (x.saw l)) ∧ RefIn w' (fun k => T k ∨ (w.heap.size ≤ k ∧ k < w'.heap.size)) g (x.see l) ∧ w.grownBy w' (some g) := by
  have hgl0 := h.lt
  have H := Lib.hid (show RefIn w (fun k => T k ∨ (w.heap.size ≤ k ∧ k < w.heap.size)) g x from h.news hgl0)
  obtain ⟨Ax, cx, h⟩ := h
  obtain ⟨c0, c1, c2, c3, c4, c5, c6, c7, c8, cz⟩ := h.blk.c9
  have HA := Lib.hid h
  have HL := Lib.hid hl
  have HN := Lib.hid hl.len
  have hgl := h.lt
  have HU := Lib.hid hU
  clear h hl hU hgl0
  obtain ⟨xm, xa, xi, xt, xr, xc, xl, xn, xs⟩ := x
  dsimp only at c0 c1 c2 c3 c4 c5 c6 c7 c8 hn
  by_cases h0 : ¬ xs = 4
  · rw [show Win.saw ⟨xm, xa, xi, xt, xr, xc, xl, xn, xs⟩ l = 0 from if_neg h0, show Win.see ⟨xm, xa, xi, xt, xr, xc, xl, xn, xs⟩ l = ⟨xm, xa, xi, xt, xr, xc, xl, xn, xs⟩ from if_neg h0]
    have d0 : (xs == 4) = false := by simpa using h0
    have d0n : (xs != 4) = true := by simpa using h0
    have d0d : decide (xs = 4) = false := decide_eq_false h0
    clear h0
    go_enter Try.func143, Try.ntmps143
    go_wp2
    go_ret
    exact ⟨rfl, H.out, World.grownBy.refl w _⟩
  obtain rfl : xs = 4 := Classical.byContradiction h0
  clear h0
  rw [show Win.saw ⟨xm, xa, xi, xt, xr, xc, xl, xn, 4⟩ l = (xr.length : Int) - ((seeL xt l xr).length : Int) from if_pos rfl, show Win.see ⟨xm, xa, xi, xt, xr, xc, xl, xn, 4⟩ l = ⟨xm, xa, xi, xt, seeL xt l xr, xc, xl, xn, 4⟩ from if_pos rfl, seeL_filter]
  obtain ⟨nr, hnr⟩ : ∃ nr, nr = xr.length := ⟨_, rfl⟩
  rw [← hnr] at c8 hn ⊢
  have HNR := Lib.hid hnr
  have HRO := Lib.hid (show IsSl rowRep w T Ax nr xr by rw [hnr]; exact HA.out.rows)
  clear hnr
  obtain ⟨i0, hi, hz0, hz1, hz2⟩ := info_parts info_row
  go_enter Try.func143, Try.ntmps143
  go_wp2_with fail
  go_loopw [5, 6] (fun v i wr => ∃ p : Nat, i = .int .i64 p ∧ p ≤ nr ∧ Own rowRep wr w.heap.size (fun _ => False) 80 v ((xr.take p).filter (fun x => !hitB xt l x)) ∧ Below w.heap.size w wr) (fun _ i _ => nr - (intOf i).toNat)
  case atStart => exact ⟨0, rfl, Nat.zero_le _, Own.nil _ _ _ (fun _ h => h.elim) _ none, Below.refl _ _⟩
  case round =>
    obtain ⟨wr3, rfl⟩ : ∃ x : World, x = wr := ⟨_, rfl⟩
    obtain ⟨p, rfl, hp, hown, hbel⟩ := hrel
    have OJ := Lib.hid hown
    have BJ := Lib.hid hbel
    have k1 := (hbel.cell (p := ⟨g, 1, none⟩) hgl).trans c1
    have k3 := (hbel.cell (p := ⟨g, 3, none⟩) hgl).trans c3
    have k8 := (hbel.cell (p := ⟨g, 8, none⟩) hgl).trans c8
    have hgw : g < wr3.heap.size := Nat.lt_of_lt_of_le hgl hbel.size
    have hsz3 : w.heap.size ≤ wr3.heap.size := hbel.size
    clear hown hbel
    by_cases hlt : p < nr
    · have hd : decide ((p : Int) < (nr : Int)) = true := decide_eq_true (by omega)
      have hpi : (p : Int) < (nr : Int) := by omega
      obtain ⟨br, of', y, rfl, hbr, hy, hwy, r0, r1⟩ := HRO.out.row hlt (fun q hq => BJ.out.cell (HA.out.hT _ hq))
      have hbrw : br < w.heap.size := HA.out.hT _ hbr
      have hbrw3 : br < wr3.heap.size := by omega
      have HTJ := Lib.hid (take_snoc hy)
      have HWY := Lib.hid hwy
      obtain ⟨yk, yv⟩ := y
      dsimp only at r0 r1
      clear hbr hy hwy
      go_wp2_with fail
      go_loopw [7, 8] (fun ht i wr4 => ∃ q : Nat, i = .int .i64 q ∧ q ≤ n ∧ ht = .bool (hitB xt (l.take q) ⟨yk, yv⟩) ∧ Below wr3.heap.size wr3 wr4) (fun _ i _ => n - (intOf i).toNat)
      case atStart => exact ⟨0, rfl, Nat.zero_le _, rfl, Below.refl _ _⟩
      case round =>
        obtain ⟨wr4, rfl⟩ : ∃ x : World, x = wr := ⟨_, rfl⟩
        obtain ⟨q, rfl, hq, rfl, hbel⟩ := hrel
        have B4 := Lib.hid hbel
        have j3 := (hbel.cell (p := ⟨g, 3, none⟩) hgw).trans k3
        have j8 := (hbel.cell (p := ⟨g, 8, none⟩) hgw).trans k8
        have s0 := (hbel.cell (p := ⟨br, _, none⟩) hbrw3).trans r0
        have s1 := (hbel.cell (p := ⟨br, _, none⟩) hbrw3).trans r1
        have hsz4 : wr3.heap.size ≤ wr4.heap.size := hbel.size
        clear hbel
        by_cases hqlt : q < n
        · have hdq : decide ((q : Int) < (n : Int)) = true := decide_eq_true (by omega)
          have hqi : (q : Int) < (n : Int) := by omega
          obtain ⟨bc, oc', ct, ck, cg, cv, rfl, hbS, hyc, -, e0, e1, e2, e3⟩ := HL.out.chgc (w' := wr4) hqlt (fun p hp => (B4.out.cell (by have := HU.out _ hp; omega)).trans (BJ.out.cell (HU.out _ hp)))
          have HIT := Lib.hid (show hitB xt (l.take (q + 1)) ⟨yk, yv⟩ = (hitB xt (l.take q) ⟨yk, yv⟩ || decide (ct = xt ∧ ck = yk)) by rw [take_snoc hyc, hitB_snoc])
          clear hyc hbS
          obtain ⟨ht, hht⟩ : ∃ ht, ht = hitB xt (l.take q) ⟨yk, yv⟩ := ⟨_, rfl⟩
          rw [← hht] at HIT ⊢
          clear hht
          go_wp2_with fail
          cases ht
          · by_cases g1 : ct = xt
            · have HX := Lib.hid (show hitB xt (l.take (q + 1)) ⟨yk, yv⟩ = (ck == yk) by rw [HIT.out, Bool.false_or, Bool.eq_iff_iff]; simp [g1])
              have d1 : (ct == xt) = true := by simpa using g1
              clear g1
              go_quiet (fail)
              go_wp2_with fail
              go_roundw
              case rel => exact ⟨q + 1, by go_num, by omega, by rw [HX.out], below_drewN B4.out _⟩
              case measure => simp [intOf]; omega
            · have HX := Lib.hid (show hitB xt (l.take (q + 1)) ⟨yk, yv⟩ = false by rw [HIT.out, Bool.false_or]; exact decide_eq_false (fun h => g1 h.1))
              have d1 : (ct == xt) = false := by simpa using g1
              clear g1
              go_quiet (fail)
              go_wp2_with fail
              go_roundw
              case rel => exact ⟨q + 1, by go_num, by omega, by rw [HX.out], below_drewN B4.out _⟩
              case measure => simp [intOf]; omega
          · have HX := Lib.hid (show hitB xt (l.take (q + 1)) ⟨yk, yv⟩ = true by rw [HIT.out, Bool.true_or])
            go_quiet (fail)
            go_wp2_with fail
            go_roundw
            case rel => exact ⟨q + 1, by go_num, by omega, by rw [HX.out], below_drewN B4.out _⟩
            case measure => simp [intOf]; omega
        · have hdq : decide ((q : Int) < (n : Int)) = false := decide_eq_false (by omega)
          obtain rfl : n = q := by omega
          have hta : l.take n = l := List.take_of_length_le (by rw [← HN.out]; exact Nat.le_refl _)
          rw [hta]
          have B24 := Lib.hid (show Below w.heap.size w wr4 from BJ.out.trans (B4.out.mono hsz3))
          have OJ4 := Lib.hid (OJ.out.below B4.out)
          clear hta hqlt
          obtain ⟨ht, hht⟩ : ∃ ht, ht = hitB xt l ⟨yk, yv⟩ := ⟨_, rfl⟩
          have HTT := Lib.hid hht
          rw [← hht]
          clear hht
          cases ht
          · have HWL := Lib.hid (show ((xr.take p).filter (fun x => !hitB xt l x)).length ≤ 100000 by
              have h1 := List.length_filter_le (fun x => !hitB xt l x) (xr.take p)
              rw [List.length_take] at h1
              omega)
            obtain ⟨acc, hacc⟩ : ∃ acc, acc = (xr.take p).filter (fun x => !hitB xt l x) := ⟨_, rfl⟩
            have HACC := Lib.hid hacc
            rw [← hacc] at OJ4 HWL
            clear hacc
            have hle := HWL.out
            go_wp2_with (first
              | (at_builtin; refine wpList_append_Own _ rfl _ _ 81 rfl w.heap.size 80 i0 _ 24 Try.underlying81 hi hz0 hz1 hz2 rfl (R := rowRep) (S := fun _ => False) (l := acc) (l' := [⟨yk, yv⟩]) u5 rfl (OJ4.out.alloc _) _ 1 1 rfl (Src.new (cs := [.int .i64 yk, .string yv]) ⟨rfl, HWY.out⟩) (by simp only [maxLen]; omega) (by omega) (by omega) (by simp; omega) ?_; intro v9 w9 own9 gr9 at9; have OW9 := Lib.hid own9; have B9 := Lib.hid ((B24.out.alloc B24.out.size _).grown gr9 (by simp; omega) (fun k hk => OJ4.out.row_ge hk)); clear own9 gr9 at9)
              | fail)
            go_roundw
            case rel => exact ⟨p + 1, by go_num, by omega, by rw [HTJ.out, List.filter_append, ← HACC.out, show List.filter (fun x => !hitB xt l x) [⟨yk, yv⟩] = [⟨yk, yv⟩] by rw [List.filter_cons, ← HTT.out]; rfl]; exact OW9.out, B9.out⟩
            case measure => simp [intOf]; omega
          · go_wp2_with fail
            go_roundw
            case rel => exact ⟨p + 1, by go_num, by omega, by rw [HTJ.out, List.filter_append, show List.filter (fun x => !hitB xt l x) [⟨yk, yv⟩] = [] by rw [List.filter_cons, ← HTT.out]; rfl, List.append_nil]; exact OJ4.out, B24.out⟩
            case measure => simp [intOf]; omega
    · obtain rfl : nr = p := by omega
      have hd : decide ((nr : Int) < (nr : Int)) = false := by simp
      have htj : xr.take nr = xr := List.take_of_length_le (by rw [← HNR.out]; exact Nat.le_refl _)
      rw [htj] at OJ
      clear htj hlt
      obtain ⟨acc, hacc⟩ : ∃ acc, acc = xr.filter (fun x => !hitB xt l x) := ⟨_, rfl⟩
      rw [← hacc] at OJ
      have HACC := Lib.hid hacc
      have hla : acc.length ≤ nr := by rw [hacc, HNR.out]; exact List.length_filter_le _ _
      clear hacc
      obtain ⟨Av, cv, hv, _, _, _⟩ := OJ.out.isSlB
      subst hv
      have K3 := Lib.hid (HA.out.blk.after BJ.out)
      have kz := K3.out.2.1
      go_wp2_with fail
      go_ret
      rw [← HACC.out]
      have O3 := Lib.hid (show Own rowRep (wr3.setCell ⟨g, 8, none⟩ (.slice Av acc.length cv)) w.heap.size (fun _ => False) 80 (.slice Av acc.length cv) acc from
        OJ.out.kept (grown_setB wr3 ⟨g, 8, none⟩ _) (fun k hk => ⟨fun e => by injection hk with hk; have h1 := OJ.out.row_ge e; dsimp only at hk; omega, id⟩))
      have G3 := Lib.hid (show w.grownBy (wr3.setCell ⟨g, 8, none⟩ (.slice Av acc.length cv)) (some g) from gset (grown_of_below BJ.out _) 8 _)
      obtain ⟨A9, c9, hv9, _, _, sl9⟩ := O3.out.isSl (S' := fun k => T k ∨ (w.heap.size ≤ k ∧ k < (wr3.setCell ⟨g, 8, none⟩ (.slice Av acc.length cv)).heap.size)) (fun _ h => h.elim) (fun k h1 h2 => .inr ⟨h1, h2⟩)
      injection hv9 with q1 q2 q3
      subst q1
      refine ⟨rfl, ⟨Av, cv, K3.out.put (j := 8) (by simp) _ rfl, sl9, ?_, ?_⟩, G3.out⟩
      · intro k hk
        rcases hk with hk | hk
        · exact Nat.lt_of_lt_of_le (HA.out.hT k hk) G3.out.size
        · exact hk.2
      · intro e
        rcases e with e | e
        · exact HA.out.ng e
        · omega
end Go.Proofs.Ythhpddiicnjmmaa
