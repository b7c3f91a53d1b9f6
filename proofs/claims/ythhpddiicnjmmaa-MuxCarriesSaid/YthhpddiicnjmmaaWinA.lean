/- Contracts of the window: New, Open, Shut, Low, what it tells. Contracts of the window: Clone, Rows, Fill, Waits. Contracts of the window: what See calls of package slices: IndexFunc, DeleteFunc. Contracts of the window: DeleteFunc at rows. -/
import Derived.Test.YthhpddiicnjmmaaPlanT
import Derived.Test.YthhpddiicnjmmaaBlk
import Derived.Test.YthhpddiicnjmmaaFldA
import Derived.Test.YthhpddiicnjmmaaHelpL
import Derived.Test.YthhpddiicnjmmaaRowK
import Derived.Lib.SliceRun
import Derived.Deep.RegionHeld3
import Derived.Deep.QuietTactic
import Derived.BigQuiet
import Derived.Laws.IdiomCopy
set_option linter.unusedVariables false
set_option linter.unusedSimpArgs false
set_option maxRecDepth 100000
namespace Go.Proofs.Ythhpddiicnjmmaa
open Go.RowKit

/-- A window. -/
structure Win where
  mark : Int
  after : Int
  id : Int
  table : Int
  rows : List Row
  cursor : Int
  last : Bool
  n : Int
  state : Int

/-- What a call leaves as it was: the blocks in S. -/
structure Rest (S : Nat → Prop) (w w' : World) : Prop where
  os : w'.os = w.os
  tape : w'.tape = w.tape
  output : w'.output = w.output
  size : w.heap.size ≤ w'.heap.size
  block : ∀ k, S k → w'.heap[k]? = w.heap[k]?

theorem Rest.refl (S : Nat → Prop) (w : World) : Rest S w w := ⟨rfl, rfl, rfl, Nat.le_refl _, fun _ _ => rfl⟩
theorem Rest.trans {S : Nat → Prop} {a b c : World} (h : Rest S a b) (k : Rest S b c) : Rest S a c :=
  ⟨k.os.trans h.os, k.tape.trans h.tape, k.output.trans h.output, Nat.le_trans h.size k.size, fun i hi => (k.block i hi).trans (h.block i hi)⟩
theorem Rest.set {S : Nat → Prop} {a b : World} (h : Rest S a b) {g : Nat} (hg : ¬ S g) (j : Nat) (v : Value) : Rest S a (b.setCell ⟨g, j, none⟩ v) := by
  have gr := grown_setB b ⟨g, j, none⟩ v
  exact ⟨gr.os.trans h.os, gr.tape.trans h.tape, gr.output.trans h.output, Nat.le_trans h.size gr.size, fun k hk => (Below.heap_setCell b ⟨g, j, none⟩ v k (fun e => hg (by have e' : k = g := e; rw [← e']; exact hk))).trans (h.block k hk)⟩
theorem Rest.below {S : Nat → Prop} {a b c : World} (h : Rest S a b) (hS : ∀ k, S k → k < b.heap.size) (hb : Below b.heap.size b c) : Rest S a c :=
  ⟨hb.os.trans h.os, hb.tape.trans h.tape, hb.output.trans h.output, Nat.le_trans h.size hb.size, fun k hk => (hb.block k (hS k hk)).trans (h.block k hk)⟩
theorem Rest.less {S S' : Nat → Prop} {a b : World} (h : Rest S a b) (hS : ∀ k, S' k → S k) : Rest S' a b := ⟨h.os, h.tape, h.output, h.size, fun k hk => h.block k (hS k hk)⟩
theorem Rest.toBelow {S : Nat → Prop} {a b : World} {B : Nat} (h : Rest S a b) (hS : ∀ k, k < B → S k) : Below B a b := ⟨h.os, h.tape, h.output, h.size, fun k hk => h.block k (hS k hk)⟩
theorem IsSl.rest {α : Type} {R : Rep α} {w w' : World} {S T : Nat → Prop} {A : Option Addr} {n : Nat} {l : List α} (h : IsSl R w T A n l) (hr : Rest S w w') (hT : ∀ k, T k → S k) : IsSl R w' T A n l :=
  h.keep fun p hp => World.cell?_of_block (hr.block _ (hT _ hp))
theorem Blk.rest {w w' : World} {S : Nat → Prop} {b : Nat} {cs : List Value} (h : Blk w b cs) (hr : Rest S w w') (hb : S b) : Blk w' b cs := h.same (hr.block b hb) hr.size

/-- A window at block g, the row of its rows in rv; neither is among the blocks in S. -/
structure WinAt (w : World) (S : Nat → Prop) (g : Nat) (x : Win) (rv : Value) : Prop where
  blk : Blk w g [.int .i64 x.mark, .int .i64 x.after, .int .i64 x.id, .int .i64 x.table, rv, .int .i64 x.cursor, .bool x.last, .int .i64 x.n, .int .i64 x.state]
  own : Own rowRep w 0 (fun _ => False) 80 rv x.rows
  ng : ¬ S g
  nr : ∀ r, rowOf rv = some r → ¬ S r ∧ r ≠ g
def WinOwn (w : World) (S : Nat → Prop) (g : Nat) (x : Win) : Prop := ∃ rv, WinAt w S g x rv

/-- Other blocks than the window's. -/
theorem WinAt.grown {w w' : World} {S : Nat → Prop} {g : Nat} {x : Win} {rv : Value} (h : WinAt w S g x rv) {row : Option Nat} (gr : w.grownBy w' row) (hr : ∀ k, row = some k → k ≠ g ∧ rowOf rv ≠ some k) : WinAt w' S g x rv :=
  ⟨h.blk.grown gr (fun k hk => Ne.symm (hr k hk).1), h.own.kept gr (fun k hk => ⟨(hr k hk).2, fun h => h⟩), h.ng, h.nr⟩
theorem WinAt.below {w w' : World} {S : Nat → Prop} {g : Nat} {x : Win} {rv : Value} (h : WinAt w S g x rv) (hb : Below w.heap.size w w') : WinAt w' S g x rv :=
  ⟨h.blk.after hb, h.own.below hb, h.ng, h.nr⟩
theorem WinAt.alloc {w : World} {S : Nat → Prop} {g : Nat} {x : Win} {rv : Value} (h : WinAt w S g x rv) (o : Obj) : WinAt (w.alloc o) S g x rv := h.below ((Below.refl _ _).alloc (Nat.le_refl _) o)
theorem WinOwn.below {w w' : World} {S : Nat → Prop} {g : Nat} {x : Win} (h : WinOwn w S g x) (hb : Below w.heap.size w w') : WinOwn w' S g x := by
  obtain ⟨rv, h⟩ := h; exact ⟨rv, h.below hb⟩
/-- Newer blocks, or fewer, are not the window's either. -/
theorem WinOwn.sets {w : World} {S S' : Nat → Prop} {g : Nat} {x : Win} (h : WinOwn w S g x) (hg : ¬ S' g) (hS : ∀ k, S' k → S k ∨ w.heap.size ≤ k) : WinOwn w S' g x := by
  obtain ⟨rv, h⟩ := h
  refine ⟨rv, h.blk, h.own, hg, fun r hr => ⟨fun hk => ?_, (h.nr r hr).2⟩⟩
  rcases hS r hk with h1 | h1
  · exact (h.nr r hr).1 h1
  · exact Nat.lt_irrefl _ (Nat.lt_of_lt_of_le (h.own.row_lt hr) h1)
theorem WinAt.lt {w : World} {S : Nat → Prop} {g : Nat} {x : Win} {rv : Value} (h : WinAt w S g x rv) : g < w.heap.size := h.blk.lt

theorem Own.setG {w : World} {rv : Value} {l : List Row} {e : TypeId} {g : Nat} (h : Own rowRep w 0 (fun _ => False) e rv l) (hg : ∀ r, rowOf rv = some r → r ≠ g) (j : Nat) (v : Value) : Own rowRep (w.setCell ⟨g, j, none⟩ v) 0 (fun _ => False) e rv l :=
  h.kept (grown_setB w ⟨g, j, none⟩ v) (fun k hk => by injection hk with hk; subst hk; exact ⟨fun e => hg _ e rfl, fun h => h⟩)

theorem Blk.c9 {w : World} {b : Nat} {v0 v1 v2 v3 v4 v5 v6 v7 v8 : Value} (h : Blk w b [v0, v1, v2, v3, v4, v5, v6, v7, v8]) : w.cell? ⟨b, 0, none⟩ = some v0 ∧ w.cell? ⟨b, 1, none⟩ = some v1 ∧ w.cell? ⟨b, 2, none⟩ = some v2 ∧ w.cell? ⟨b, 3, none⟩ = some v3 ∧ w.cell? ⟨b, 4, none⟩ = some v4 ∧ w.cell? ⟨b, 5, none⟩ = some v5 ∧ w.cell? ⟨b, 6, none⟩ = some v6 ∧ w.cell? ⟨b, 7, none⟩ = some v7 ∧ w.cell? ⟨b, 8, none⟩ = some v8 ∧ (∀ j, w.frozen? ⟨b, j, none⟩ = false) := ⟨h.1 0 _ rfl, h.1 1 _ rfl, h.1 2 _ rfl, h.1 3 _ rfl, h.1 4 _ rfl, h.1 5 _ rfl, h.1 6 _ rfl, h.1 7 _ rfl, h.1 8 _ rfl, h.2.1⟩

/-! ### New -/
def win0 (n : Int) : Win := ⟨0, 0, 0, 0, [], 0, false, n, 0⟩

theorem winnew_ok (n : Int) (w : World) (h1 : 1 ≤ n) (h2 : n ≤ 64) (S : Nat → Prop) (hS : ∀ k, S k → k < w.heap.size) :
    Calls Try.prog 74 #[.int .i64 n] w fun e w' => e = .returned (.tuple #[.pointer (some ⟨w.heap.size, 0, none⟩), .int .i64 0]) ∧ WinOwn w' S w.heap.size (win0 n) ∧ Below w.heap.size w w' := by
  have d1 : decide (n < 1) = false := decide_eq_false (by omega)
  have d2 : decide (64 < n) = false := decide_eq_false (by omega)
  go_enter Try.func74, Try.ntmps74
  go_wp2
  go_ret2
  exact ⟨rfl, ⟨_, Blk.new rfl rfl, Own.nil _ _ _ (fun _ h => h.elim) _ none, fun h => Nat.lt_irrefl _ (hS _ h), fun r hr => by simp [rowOf] at hr⟩, (Below.refl _ _).alloc (Nat.le_refl _) _⟩

theorem winnew_no (n : Int) (w : World) (h : n < 1 ∨ 64 < n) :
    Calls Try.prog 74 #[.int .i64 n] w fun e w' => e = .returned (.tuple #[.pointer none, .int .i64 1]) ∧ w = w' := by
  by_cases h1 : n < 1
  · have d1 : decide (n < 1) = true := decide_eq_true h1
    go_enter Try.func74, Try.ntmps74
    go_wp2
    go_ret2
    exact ⟨rfl, rfl⟩
  · have d1 : decide (n < 1) = false := decide_eq_false h1
    have d2 : decide (64 < n) = true := decide_eq_true (by omega)
    go_enter Try.func74, Try.ntmps74
    go_wp2
    go_ret2
    exact ⟨rfl, rfl⟩


theorem winState_any (g : Nat) (S : Nat → Prop) (x : Win) (w : World) (h : WinOwn w S g x) :
    Calls Try.prog 95 #[.pointer (some ⟨g, 0, none⟩)] w fun e w' => e = .returned (.int .i64 x.state) ∧ w = w' := by
  obtain ⟨rv, h⟩ := h
  obtain ⟨c0, c1, c2, c3, c4, c5, c6, c7, c8, cz⟩ := h.blk.c9
  go_enter Try.func95, Try.ntmps95
  go_wp2
  go_ret
  exact ⟨rfl, rfl⟩





/-! ### Open -/
def Win.openOk (x : Win) (mark id table after : Int) : Bool := decide (x.state = 0 ∧ 1 ≤ mark ∧ mark ≤ 1099511627776 ∧ 1 ≤ id ∧ id ≤ 64 ∧ 0 ≤ table ∧ table < 8 ∧ 0 ≤ after ∧ after ≤ 1099511627776)
def Win.opened (x : Win) (mark id table after : Int) : Win := if x.openOk mark id table after = true then ⟨mark, after, id, table, [], 0, false, x.n, 1⟩ else x

set_option maxHeartbeats 4000000 in
set_option maxRecDepth 100000 in
theorem winopen_any (g : Nat) (S : Nat → Prop) (x : Win) (mark id table after : Int) (w : World) (hS : ∀ k, S k → k < w.heap.size) (h : WinOwn w S g x) :
    Calls Try.prog 98 #[.pointer (some ⟨g, 0, none⟩), .int .i64 mark, .int .i64 id, .int .i64 table, .int .i64 after] w fun e w' => e = .returned (.bool (x.openOk mark id table after)) ∧ WinOwn w' S g (x.opened mark id table after) ∧ Rest S w w' := by
  have H := Lib.hid h
  obtain ⟨rv, h⟩ := h
  obtain ⟨c0, c1, c2, c3, c4, c5, c6, c7, c8, cz⟩ := h.blk.c9
  have HA := Lib.hid h
  clear h
  obtain ⟨xm, xa, xi, xt, xr, xc, xl, xn, xs⟩ := x
  dsimp only at c0 c1 c2 c3 c4 c5 c6 c7 c8
  by_cases h0 : ¬ xs = 0
  · have HF := Lib.hid (show Win.openOk ⟨xm, xa, xi, xt, xr, xc, xl, xn, xs⟩ mark id table after = false from decide_eq_false (fun h => h0 h.1))
    have d0 : (xs == 0) = false := by simpa using h0
    have d0n : (xs != 0) = true := by simpa using h0
    have d0d : decide (xs = 0) = false := decide_eq_false h0
    clear h0
    go_enter Try.func98, Try.ntmps98
    go_wp2
    go_ret
    unfold Win.opened
    rw [HF.out]
    exact ⟨rfl, H.out, Rest.refl _ _⟩
  obtain rfl : xs = 0 := Classical.byContradiction h0
  clear h0
  by_cases h1 : ¬ (1 ≤ mark)
  · have HF := Lib.hid (show Win.openOk ⟨xm, xa, xi, xt, xr, xc, xl, xn, 0⟩ mark id table after = false from decide_eq_false (fun h => h1 h.2.1))
    have d1 : decide (mark < 1) = true := decide_eq_true (by omega)
    clear h1
    go_enter Try.func98, Try.ntmps98
    go_wp2
    go_ret
    unfold Win.opened
    rw [HF.out]
    exact ⟨rfl, H.out, Rest.refl _ _⟩
  replace h1 : 1 ≤ mark := Classical.byContradiction h1
  have d1 : decide (mark < 1) = false := decide_eq_false (by omega)
  by_cases h2 : ¬ (mark ≤ 1099511627776)
  · have HF := Lib.hid (show Win.openOk ⟨xm, xa, xi, xt, xr, xc, xl, xn, 0⟩ mark id table after = false from decide_eq_false (fun h => h2 h.2.2.1))
    have d2 : decide (1099511627776 < mark) = true := decide_eq_true (by omega)
    clear h2
    go_enter Try.func98, Try.ntmps98
    go_wp2
    go_ret
    unfold Win.opened
    rw [HF.out]
    exact ⟨rfl, H.out, Rest.refl _ _⟩
  replace h2 : mark ≤ 1099511627776 := Classical.byContradiction h2
  have d2 : decide (1099511627776 < mark) = false := decide_eq_false (by omega)
  by_cases h3 : ¬ (1 ≤ id)
  · have HF := Lib.hid (show Win.openOk ⟨xm, xa, xi, xt, xr, xc, xl, xn, 0⟩ mark id table after = false from decide_eq_false (fun h => h3 h.2.2.2.1))
    have d3 : decide (id < 1) = true := decide_eq_true (by omega)
    clear h3
    go_enter Try.func98, Try.ntmps98
    go_wp2
    go_ret
    unfold Win.opened
    rw [HF.out]
    exact ⟨rfl, H.out, Rest.refl _ _⟩
  replace h3 : 1 ≤ id := Classical.byContradiction h3
  have d3 : decide (id < 1) = false := decide_eq_false (by omega)
  by_cases h4 : ¬ (id ≤ 64)
  · have HF := Lib.hid (show Win.openOk ⟨xm, xa, xi, xt, xr, xc, xl, xn, 0⟩ mark id table after = false from decide_eq_false (fun h => h4 h.2.2.2.2.1))
    have d4 : decide (64 < id) = true := decide_eq_true (by omega)
    clear h4
    go_enter Try.func98, Try.ntmps98
    go_wp2
    go_ret
    unfold Win.opened
    rw [HF.out]
    exact ⟨rfl, H.out, Rest.refl _ _⟩
  replace h4 : id ≤ 64 := Classical.byContradiction h4
  have d4 : decide (64 < id) = false := decide_eq_false (by omega)
  by_cases h5 : ¬ (0 ≤ table)
  · have HF := Lib.hid (show Win.openOk ⟨xm, xa, xi, xt, xr, xc, xl, xn, 0⟩ mark id table after = false from decide_eq_false (fun h => h5 h.2.2.2.2.2.1))
    have d5 : decide (table < 0) = true := decide_eq_true (by omega)
    clear h5
    go_enter Try.func98, Try.ntmps98
    go_wp2
    go_ret
    unfold Win.opened
    rw [HF.out]
    exact ⟨rfl, H.out, Rest.refl _ _⟩
  replace h5 : 0 ≤ table := Classical.byContradiction h5
  have d5 : decide (table < 0) = false := decide_eq_false (by omega)
  by_cases h6 : ¬ (table < 8)
  · have HF := Lib.hid (show Win.openOk ⟨xm, xa, xi, xt, xr, xc, xl, xn, 0⟩ mark id table after = false from decide_eq_false (fun h => h6 h.2.2.2.2.2.2.1))
    have d6 : decide (8 ≤ table) = true := decide_eq_true (by omega)
    clear h6
    go_enter Try.func98, Try.ntmps98
    go_wp2
    go_ret
    unfold Win.opened
    rw [HF.out]
    exact ⟨rfl, H.out, Rest.refl _ _⟩
  replace h6 : table < 8 := Classical.byContradiction h6
  have d6 : decide (8 ≤ table) = false := decide_eq_false (by omega)
  by_cases h7 : ¬ (0 ≤ after)
  · have HF := Lib.hid (show Win.openOk ⟨xm, xa, xi, xt, xr, xc, xl, xn, 0⟩ mark id table after = false from decide_eq_false (fun h => h7 h.2.2.2.2.2.2.2.1))
    have d7 : decide (after < 0) = true := decide_eq_true (by omega)
    clear h7
    go_enter Try.func98, Try.ntmps98
    go_wp2
    go_ret
    unfold Win.opened
    rw [HF.out]
    exact ⟨rfl, H.out, Rest.refl _ _⟩
  replace h7 : 0 ≤ after := Classical.byContradiction h7
  have d7 : decide (after < 0) = false := decide_eq_false (by omega)
  by_cases h8 : ¬ (after ≤ 1099511627776)
  · have HF := Lib.hid (show Win.openOk ⟨xm, xa, xi, xt, xr, xc, xl, xn, 0⟩ mark id table after = false from decide_eq_false (fun h => h8 h.2.2.2.2.2.2.2.2))
    have d8 : decide (1099511627776 < after) = true := decide_eq_true (by omega)
    clear h8
    go_enter Try.func98, Try.ntmps98
    go_wp2
    go_ret
    unfold Win.opened
    rw [HF.out]
    exact ⟨rfl, H.out, Rest.refl _ _⟩
  replace h8 : after ≤ 1099511627776 := Classical.byContradiction h8
  have d8 : decide (1099511627776 < after) = false := decide_eq_false (by omega)
  have HT := Lib.hid (show Win.openOk ⟨xm, xa, xi, xt, xr, xc, xl, xn, 0⟩ mark id table after = true from decide_eq_true ⟨rfl, h1, h2, h3, h4, h5, h6, h7, h8⟩)
  clear h1 h2 h3 h4 h5 h6 h7 h8
  go_enter Try.func98, Try.ntmps98
  go_wp2
  go_ret
  unfold Win.opened
  rw [HT.out]
  refine ⟨rfl, ⟨.slice none 0 0, ?_, Own.nil _ _ _ (fun _ h => h.elim) _ none, HA.out.ng, fun r hr => by simp [rowOf] at hr⟩, ?_⟩
  · exact ((((((((HA.out.blk.put (j := 0) (by simp) _ rfl).put (j := 1) (by simp) _ rfl).put (j := 2) (by simp) _ rfl).put (j := 3) (by simp) _ rfl).put (j := 4) (by simp) _ rfl).put (j := 5) (by simp) _ rfl).put (j := 6) (by simp) _ rfl).put (j := 8) (by simp) _ rfl)
  · exact ((((((((Rest.refl S w).set HA.out.ng 0 _).set HA.out.ng 1 _).set HA.out.ng 2 _).set HA.out.ng 3 _).set HA.out.ng 4 _).set HA.out.ng 5 _).set HA.out.ng 6 _).set HA.out.ng 8 _

/-! ### Shut, Low -/
def Win.shut (x : Win) : Win := if x.state = 2 then { x with state := 3 } else x
def Win.low (x : Win) (mark : Int) : Win := if x.state = 3 ∧ mark = x.mark then { x with state := 4 } else x

theorem winshut_any (g : Nat) (S : Nat → Prop) (x : Win) (w : World) (h : WinOwn w S g x) :
    Calls Try.prog 102 #[.pointer (some ⟨g, 0, none⟩)] w fun e w' => e = .returned (.bool (decide (x.state = 2))) ∧ WinOwn w' S g x.shut ∧ Rest S w w' := by
  have H := Lib.hid h
  obtain ⟨rv, h⟩ := h
  obtain ⟨c0, c1, c2, c3, c4, c5, c6, c7, c8, cz⟩ := h.blk.c9
  have HA := Lib.hid h
  clear h
  unfold Win.shut
  obtain ⟨xm, xa, xi, xt, xr, xc, xl, xn, xs⟩ := x
  dsimp only at c8
  by_cases h0 : xs = 2
  · subst h0
    go_enter Try.func102, Try.ntmps102
    go_wp2
    go_ret
    exact ⟨rfl, ⟨rv, HA.out.blk.put (j := 8) (by simp) _ rfl, HA.out.own.setG (fun r hr => (HA.out.nr r hr).2) 8 _, HA.out.ng, HA.out.nr⟩, (Rest.refl S w).set HA.out.ng 8 _⟩
  · have d0 : (xs == 2) = false := by simpa using h0
    have HE := Lib.hid (show decide (xs = 2) = false from decide_eq_false h0)
    have HN := Lib.hid h0
    clear h0
    go_enter Try.func102, Try.ntmps102
    go_wp2
    go_ret
    exact ⟨by first | rfl | (dsimp only; rw [HE.out]; rfl), by first | exact H.out | (dsimp only; rw [if_neg HN.out]; exact H.out) | (rw [if_neg HN.out]; exact H.out), Rest.refl _ _⟩

theorem winlow_any (g : Nat) (S : Nat → Prop) (x : Win) (mark : Int) (w : World) (h : WinOwn w S g x) :
    Calls Try.prog 80 #[.pointer (some ⟨g, 0, none⟩), .int .i64 mark] w fun e w' => e = .returned (.bool (decide (x.state = 3 ∧ mark = x.mark))) ∧ WinOwn w' S g (x.low mark) ∧ Rest S w w' := by
  have H := Lib.hid h
  obtain ⟨rv, h⟩ := h
  obtain ⟨c0, c1, c2, c3, c4, c5, c6, c7, c8, cz⟩ := h.blk.c9
  have HA := Lib.hid h
  clear h
  unfold Win.low
  obtain ⟨xm, xa, xi, xt, xr, xc, xl, xn, xs⟩ := x
  dsimp only at c8 c0
  by_cases h0 : xs = 3
  · subst h0
    by_cases h1 : mark = xm
    · subst h1
      go_enter Try.func80, Try.ntmps80
      go_wp2
      go_ret
      refine ⟨by first | rfl | (dsimp only; rw [decide_eq_true ⟨rfl, rfl⟩]; rfl), ?_, (Rest.refl S w).set HA.out.ng 8 _⟩
      (try rw [if_pos ⟨rfl, rfl⟩])
      exact ⟨rv, HA.out.blk.put (j := 8) (by simp) _ rfl, HA.out.own.setG (fun r hr => (HA.out.nr r hr).2) 8 _, HA.out.ng, HA.out.nr⟩
    · have d1 : (mark == xm) = false := by simpa using h1
      have HN := Lib.hid h1
      clear h1
      go_enter Try.func80, Try.ntmps80
      go_wp2
      go_ret
      exact ⟨by first | rfl | (dsimp only; rw [decide_eq_false (fun h => HN.out h.2)]; rfl), by first | exact H.out | (dsimp only; rw [if_neg (fun h => HN.out h.2)]; exact H.out) | (rw [if_neg (fun h => HN.out h.2)]; exact H.out), Rest.refl _ _⟩
  · have d0 : (xs == 3) = false := by simpa using h0
    have HN := Lib.hid h0
    clear h0
    go_enter Try.func80, Try.ntmps80
    go_wp2
    go_ret
    exact ⟨by first | rfl | (dsimp only; rw [decide_eq_false (fun h => HN.out h.1)]; rfl), by first | exact H.out | (dsimp only; rw [if_neg (fun h => HN.out h.1)]; exact H.out) | (rw [if_neg (fun h => HN.out h.1)]; exact H.out), Rest.refl _ _⟩
end Go.Proofs.Ythhpddiicnjmmaa

set_option linter.unusedVariables false
set_option linter.unusedSimpArgs false
set_option maxRecDepth 100000
namespace Go.Proofs.Ythhpddiicnjmmaa
open Go.RowKit

set_option maxHeartbeats 2000000 in
theorem cloneR_any (A : Option Addr) (n c : Nat) (l : List Row) (w : World) (T : Nat → Prop) (hT : ∀ k, T k → k < w.heap.size) (h : IsSl rowRep w T A n l) (hn : n ≤ 100000) :
    Calls Try.prog 139 #[.slice A n c] w fun e w' => ∃ v, e = .returned v ∧ Own rowRep w' w.heap.size (fun _ => False) 80 v l ∧ Below w.heap.size w w' := by
  obtain ⟨i0, hi, hz0, hz1, hz2⟩ := info_parts info_row
  have qT : ∀ (w : World) (a : Option Addr) (n c n' c' : Nat), (binOp .eql 81 (.slice a n c) (.slice none n' c')).run Try.prog w = .ok (.bool a.isNone) w := fun w a n c n' c' => Lib.run_eql_slice_nil w _ _ a n c n' c' Try.underlying81
  have H := Lib.hid h
  have HL := Lib.hid h.len
  cases A with
  | none =>
    have hl : l = [] := by
      have h0 : n = 0 := by
        rcases Nat.eq_zero_or_pos n with h0 | h0
        · exact h0
        · obtain ⟨b, off, a, cs, he, _⟩ := h.at_ (k := 0) h0
          cases he
      exact List.eq_nil_of_length_eq_zero (by rw [← h.len, h0])
    subst hl
    clear h
    go_enter Try.func139, Try.ntmps139
    go_wp2
    go_ret
    exact ⟨_, rfl, Own.nil _ _ _ (fun _ h => h.elim) _ none, Below.refl _ _⟩
  | some a =>
    have hb0 : Below w.heap.size w (w.alloc (.cells #[] 80)) := (Below.refl _ _).alloc (Nat.le_refl _) _
    have HS := Lib.hid (show ∀ S, Src rowRep (w.alloc (.cells #[] 80)) S (some a) n l from fun S => h.srcK flat_row (fun p hp => hb0.cell (hT _ hp)))
    clear h
    go_enter Try.func139, Try.ntmps139
    go_wp2_with (first
      | (at_builtin; refine wpList_append_Own _ rfl _ _ 81 rfl w.heap.size 80 i0 _ 24 Try.underlying81 hi hz0 hz1 hz2 rfl (R := rowRep) (S := fun _ => False) (l := []) (l' := l) (.slice (some ⟨w.heap.size, 0, none⟩) 0 0) rfl (Own.nil _ _ _ (fun _ h => h.elim) _ _) (some a) n c rfl (HS.out _) (by simp [maxLen]; omega) (by simp; omega) (by omega) (by simp) ?_; intro v1 w1 own1 gr1 at1; have bel1 := hb0.grown gr1 (by simp) (by intro k hk; simp [rowOf] at hk); simp only [List.nil_append] at own1; have OW1 := Lib.hid own1; have B1 := Lib.hid bel1; clear gr1 at1 own1 bel1)
      | fail)
    go_ret
    exact ⟨_, rfl, OW1.out, B1.out⟩

theorem winRows_any (g : Nat) (S : Nat → Prop) (x : Win) (w : World) (h : WinOwn w S g x) (hn : x.rows.length ≤ 100000) :
    Calls Try.prog 96 #[.pointer (some ⟨g, 0, none⟩)] w fun e w' => ∃ v, e = .returned v ∧ Own rowRep w' w.heap.size (fun _ => False) 80 v x.rows ∧ Below w.heap.size w w' := by
  obtain ⟨rv, h⟩ := h
  obtain ⟨c0, c1, c2, c3, c4, c5, c6, c7, c8, cz⟩ := h.blk.c9
  obtain ⟨A, c, rfl, _, _, sl⟩ := h.own.isSlB
  have SL := Lib.hid sl
  clear h sl
  go_enter Try.func96, Try.ntmps96
  go_wp2_with (first
    | (go_at_call 139; (with_reducible refine (cloneR_any A _ c x.rows w (· < w.heap.size) (fun _ h => h) SL.out hn).mono ?_); rintro e w1 ⟨v1, rfl, own1, bel1⟩)
    | fail)
  go_ret
  exact ⟨_, rfl, own1, bel1⟩

/-! ### Fill -/
def rising : Int → List Row → Bool
  | _, [] => true
  | k, r :: t => decide (k < r.key ∧ r.key ≤ 1099511627776) && rising r.key t

theorem lastKey_cons (r : Row) (t : List Row) (k : Int) : lastKey (r :: t) k = lastKey t r.key := by
  unfold lastKey
  rw [List.getLast?_cons]
  cases h : t.getLast? <;> simp [h]

theorem rising_append : ∀ (a b : List Row) (k : Int), rising k (a ++ b) = (rising k a && rising (lastKey a k) b)
  | [], b, k => by simp [rising, lastKey_nil]
  | r :: t, b, k => by
    rw [List.cons_append, rising, rising, rising_append t b r.key, lastKey_cons, Bool.and_assoc]

theorem rising_snoc (a : List Row) (r : Row) (k : Int) : rising k (a ++ [r]) = (rising k a && decide (lastKey a k < r.key ∧ r.key ≤ 1099511627776)) := by
  rw [rising_append, rising, rising, Bool.and_true]

theorem lastKey_snoc (a : List Row) (r : Row) (k : Int) : lastKey (a ++ [r]) k = r.key := by unfold lastKey; simp

theorem rising_take {l : List Row} {k : Int} {p : Nat} (h : rising k (l.take p) = false) : rising k l = false := by
  have := rising_append (l.take p) (l.drop p) k
  rw [List.take_append_drop, h, Bool.false_and] at this
  exact this

def Win.fillOk (x : Win) (l : List Row) : Bool := decide (x.state = 1 ∧ (l.length : Int) ≤ x.n) && rising x.after l
def Win.filled (x : Win) (l : List Row) : Win := if x.fillOk l = true then ⟨x.mark, x.after, x.id, x.table, l, lastKey l x.after, decide ((l.length : Int) < x.n), x.n, 2⟩ else x

set_option maxHeartbeats 8000000 in
set_option maxRecDepth 100000 in
theorem winfill_any (g : Nat) (S : Nat → Prop) (x : Win) (A : Option Addr) (n c : Nat) (l : List Row) (w : World) (hS : ∀ k, S k → k < w.heap.size) (h : WinOwn w S g x) (T : Nat → Prop) (hT : ∀ k, T k → S k) (hl : IsSl rowRep w T A n l) (hn : x.n ≤ 64) (hm : n ≤ maxLen) :
    Calls Try.prog 100 #[.pointer (some ⟨g, 0, none⟩), .slice A n c] w fun e w' => e = .returned (.bool (x.fillOk l)) ∧ WinOwn w' S g (x.filled l) ∧ Rest S w w' := by
  have H := Lib.hid h
  obtain ⟨rv, h⟩ := h
  obtain ⟨c0, c1, c2, c3, c4, c5, c6, c7, c8, cz⟩ := h.blk.c9
  have HA := Lib.hid h
  have HL := Lib.hid hl
  have HN := Lib.hid hl.len
  have hgl := h.lt
  clear h hl
  obtain ⟨xm, xa, xi, xt, xr, xc, xl, xn, xs⟩ := x
  dsimp only at c0 c1 c2 c3 c4 c5 c6 c7 c8 hn
  by_cases h0 : ¬ xs = 1
  · have HF := Lib.hid (show Win.fillOk ⟨xm, xa, xi, xt, xr, xc, xl, xn, xs⟩ l = false from by unfold Win.fillOk; dsimp only; rw [decide_eq_false (fun h => h0 h.1)]; rfl)
    have d0 : (xs == 1) = false := by simpa using h0
    have d0n : (xs != 1) = true := by simpa using h0
    have d0d : decide (xs = 1) = false := decide_eq_false h0
    clear h0
    go_enter Try.func100, Try.ntmps100
    go_wp2
    go_ret
    unfold Win.filled
    rw [HF.out]
    exact ⟨rfl, H.out, Rest.refl _ _⟩
  obtain rfl : xs = 1 := Classical.byContradiction h0
  clear h0
  by_cases h1 : ¬ ((n : Int) ≤ xn)
  · have HF := Lib.hid (show Win.fillOk ⟨xm, xa, xi, xt, xr, xc, xl, xn, 1⟩ l = false from by unfold Win.fillOk; dsimp only; rw [decide_eq_false (fun h => h1 (by rw [HN.out]; exact h.2))]; rfl)
    have d1 : decide (xn < (n : Int)) = true := decide_eq_true (by omega)
    clear h1
    go_enter Try.func100, Try.ntmps100
    go_wp2
    go_ret
    unfold Win.filled
    rw [HF.out]
    exact ⟨rfl, H.out, Rest.refl _ _⟩
  replace h1 : (n : Int) ≤ xn := Classical.byContradiction h1
  have d1 : decide (xn < (n : Int)) = false := decide_eq_false (by omega)
  have hn64 : n ≤ 64 := by omega
  have H1 := Lib.hid h1
  clear h1
  go_enter Try.func100, Try.ntmps100
  go_wp2_with fail
  go_loopw [5, 29] (fun k i wr => ∃ p : Nat, i = .int .i64 p ∧ p ≤ n ∧ k = .int .i64 (lastKey (l.take p) xa) ∧ rising xa (l.take p) = true ∧ Below w.heap.size w wr) (fun _ i _ => n - (intOf i).toNat)
  case atStart => exact ⟨0, rfl, Nat.zero_le _, by simp [lastKey_nil], by simp [rising], Below.refl _ _⟩
  case round =>
    obtain ⟨p, rfl, hp, rfl, hris, hbel⟩ := hrel
    have HR := Lib.hid hris
    have hsz := hbel.size
    have hTw : ∀ k, T k → k < w.heap.size := fun k hk => hS k (hT k hk)
    clear hris
    by_cases hlt : p < n
    · have hd : decide ((p : Int) < (n : Int)) = true := decide_eq_true (by omega)
      have hpi : (p : Int) < (n : Int) := by omega
      obtain ⟨b0, off, x, rfl, hbT, hx, hwf, k0, k1⟩ := HL.out.row hlt (fun q hq => hbel.cell (hTw _ hq))
      have HTK := Lib.hid (show l.take (p + 1) = l.take p ++ [x] from take_snoc hx)
      obtain ⟨xk, xv⟩ := x
      dsimp only at k0 k1
      obtain ⟨q, hq⟩ : ∃ q, q = lastKey (l.take p) xa := ⟨_, rfl⟩
      rw [← hq]
      have HQ := Lib.hid hq
      clear hq hx
      by_cases g1 : q < xk
      · have e1 : decide (xk ≤ q) = false := decide_eq_false (by omega)
        by_cases g2 : xk ≤ 1099511627776
        · have e2 : decide (1099511627776 < xk) = false := decide_eq_false (by omega)
          go_wp2
          go_roundw
          case rel => exact ⟨p + 1, by go_num, by omega, by rw [HTK.out, lastKey_snoc], by rw [HTK.out, rising_snoc, HR.out, ← HQ.out, decide_eq_true ⟨g1, g2⟩]; rfl, hbel.alloc hsz _⟩
          case measure => simp [intOf]; omega
        · have e2 : decide (1099511627776 < xk) = true := decide_eq_true (by omega)
          have HF := Lib.hid (show Win.fillOk ⟨xm, xa, xi, xt, xr, xc, xl, xn, 1⟩ l = false by
            unfold Win.fillOk
            dsimp only
            rw [rising_take (p := p + 1) (by rw [HTK.out, rising_snoc, HR.out, decide_eq_false (fun h => g2 h.2)]; rfl), Bool.and_false])
          go_wp2
          go_ret
          unfold Win.filled
          rw [HF.out]
          exact ⟨rfl, H.out.below (hbel.alloc hsz _), (Rest.refl S w).below hS (hbel.alloc hsz _)⟩
      · have e1 : decide (xk ≤ q) = true := decide_eq_true (by omega)
        have HF := Lib.hid (show Win.fillOk ⟨xm, xa, xi, xt, xr, xc, xl, xn, 1⟩ l = false by
          unfold Win.fillOk
          dsimp only
          rw [rising_take (p := p + 1) (by rw [HTK.out, rising_snoc, HR.out, ← HQ.out, decide_eq_false (fun h => g1 h.1)]; rfl), Bool.and_false])
        go_wp2
        go_ret
        unfold Win.filled
        rw [HF.out]
        exact ⟨rfl, H.out.below (hbel.alloc hsz _), (Rest.refl S w).below hS (hbel.alloc hsz _)⟩
    · obtain rfl : p = n := by omega
      have hd : decide ((p : Int) < (p : Int)) = false := by simp
      have HOK := Lib.hid (show Win.fillOk ⟨xm, xa, xi, xt, xr, xc, xl, xn, 1⟩ l = true by
        have := HR.out
        rw [List.take_of_length_le (by rw [← HN.out]; exact Nat.le_refl _)] at this
        unfold Win.fillOk
        dsimp only
        rw [this, decide_eq_true ⟨rfl, by rw [← HN.out]; exact H1.out⟩]
        rfl)
      have WA := Lib.hid (HA.out.below hbel)
      have HLr := Lib.hid (HL.out.keep (w' := wr) (fun q hq => hbel.cell (hTw _ hq)))
      obtain ⟨c0, c1, c2, c3, c4, c5, c6, c7, c8, cz⟩ := WA.out.blk.c9
      have hgr : g < wr.heap.size := WA.out.lt
      go_wp2_with (first
        | (go_at_call 139; (with_reducible refine (cloneR_any A p c l wr T (fun k hk => Nat.lt_of_lt_of_le (hTw k hk) hsz) HLr.out (by omega)).mono ?_); rintro e w2 ⟨v2, rfl, own2, bel2⟩; obtain ⟨Av, cv, rfl, _, _, _⟩ := own2.isSlB; have OW2 := Lib.hid own2; have WB := Lib.hid (WA.out.below bel2); have B2 := Lib.hid (hbel.trans (bel2.mono hsz)); obtain ⟨c0, c1, c2, c3, c4, c5, c6, c7, c8, cz⟩ := WB.out.blk.c9; clear own2 bel2)
        | fail)
      have hng := HA.out.ng
      have HRG := Lib.hid (show ∀ r, rowOf (.slice Av l.length cv) = some r → ¬ S r ∧ r ≠ g from fun r hr => ⟨fun hk => by have h1 := OW2.out.row_ge hr; have h2 := hS r hk; omega, fun e => by have h1 := OW2.out.row_ge hr; omega⟩)
      obtain ⟨W3, hW3⟩ : ∃ W3, W3 = (w2.setCell ⟨g, 4, none⟩ (.slice Av l.length cv)).setCell ⟨g, 8, none⟩ (.int .i64 2) := ⟨_, rfl⟩
      have K3 := Lib.hid (show Blk W3 g [.int .i64 xm, .int .i64 xa, .int .i64 xi, .int .i64 xt, .slice Av l.length cv, .int .i64 xc, .bool xl, .int .i64 xn, .int .i64 2] by
        rw [hW3]
        exact (WB.out.blk.put (j := 4) (by simp) _ rfl).put (j := 8) (by simp) _ rfl)
      have O3 := Lib.hid (show Own rowRep W3 0 (fun _ => False) 80 (.slice Av l.length cv) l by
        rw [hW3]
        exact ((OW2.out.mono (Nat.zero_le _)).setG (fun r hr => (HRG.out r hr).2) 4 _).setG (fun r hr => (HRG.out r hr).2) 8 _)
      have R3 := Lib.hid (show Rest S w W3 by
        rw [hW3]
        exact (((Rest.refl S w).below hS B2.out).set hng 4 _).set hng 8 _)
      rw [← hW3]
      clear hW3 c0 c1 c2 c3 c4 c5 c6 c7 c8 cz
      obtain ⟨c0, c1, c2', c3, c4, c5, c6, c7, c8, cz⟩ := K3.out.c9
      have HLd := Lib.hid (show IsSl rowRep W3.drew T A p l from (HL.out.rest R3.out hT).keep fun _ _ => rfl)
      have kA : ∀ v, (W3.setCell ⟨g, 5, none⟩ v).cell? ⟨g, 1, none⟩ = some (.int .i64 xa) ∧ (W3.setCell ⟨g, 5, none⟩ v).cell? ⟨g, 7, none⟩ = some (.int .i64 xn) := fun v => ⟨(World.cell?_setCell_other _ _ _ _ (by simp)).trans c1, (World.cell?_setCell_other _ _ _ _ (by simp)).trans c7⟩
      have kB : ∀ v, (W3.setCell ⟨g, 6, none⟩ v).cell? ⟨g, 1, none⟩ = some (.int .i64 xa) ∧ (W3.setCell ⟨g, 6, none⟩ v).cell? ⟨g, 7, none⟩ = some (.int .i64 xn) := fun v => ⟨(World.cell?_setCell_other _ _ _ _ (by simp)).trans c1, (World.cell?_setCell_other _ _ _ _ (by simp)).trans c7⟩
      have kAB : ∀ v u, ((W3.setCell ⟨g, 5, none⟩ v).setCell ⟨g, 6, none⟩ u).cell? ⟨g, 1, none⟩ = some (.int .i64 xa) ∧ ((W3.setCell ⟨g, 5, none⟩ v).setCell ⟨g, 6, none⟩ u).cell? ⟨g, 7, none⟩ = some (.int .i64 xn) := fun v u => ⟨(World.cell?_setCell_other _ _ _ _ (by simp)).trans (kA v).1, (World.cell?_setCell_other _ _ _ _ (by simp)).trans (kA v).2⟩
      have kBA : ∀ v u, ((W3.setCell ⟨g, 6, none⟩ v).setCell ⟨g, 5, none⟩ u).cell? ⟨g, 1, none⟩ = some (.int .i64 xa) ∧ ((W3.setCell ⟨g, 6, none⟩ v).setCell ⟨g, 5, none⟩ u).cell? ⟨g, 7, none⟩ = some (.int .i64 xn) := fun v u => ⟨(World.cell?_setCell_other _ _ _ _ (by simp)).trans (kB v).1, (World.cell?_setCell_other _ _ _ _ (by simp)).trans (kB v).2⟩
      go_region_held3 (fun w' => w'.cell? ⟨g, 1, none⟩ = some (.int .i64 xa) ∧ w'.cell? ⟨g, 7, none⟩ = some (.int .i64 xn)) (first | exact ⟨c1, c7⟩ | exact kA _ | exact kB _ | exact kAB _ _ | exact kBA _ _ | fail)
        (first
          | (go_at_call 140; (with_reducible refine (plan_any A p c l xa xn _ T HLd.out hm).mono ?_); rintro e w' ⟨rfl, rfl⟩)
          | fail)
      go_wp2
      go_ret
      unfold Win.filled
      rw [HOK.out]
      refine ⟨rfl, ⟨.slice Av l.length cv, ?_, ?_, hng, HRG.out⟩, ?_⟩
      · dsimp only
        rw [if_pos rfl, ← HN.out]
        rw [← HN.out] at K3
        exact ((K3.out.put (j := 5) (by simp) _ rfl).put (j := 6) (by simp) _ rfl).drew
      · rw [if_pos rfl]
        exact ((O3.out.setG (fun r hr => (HRG.out r hr).2) 5 _).setG (fun r hr => (HRG.out r hr).2) 6 _).drew
      · have r := (R3.out.set hng 5 (.int .i64 (lastKey l xa))).set hng 6 (.bool (decide ((p : Int) < xn)))
        exact ⟨r.os, r.tape, r.output, r.size, r.block⟩
end Go.Proofs.Ythhpddiicnjmmaa

set_option linter.unusedVariables false
set_option linter.unusedSimpArgs false
set_option maxRecDepth 100000
namespace Go.Proofs.Ythhpddiicnjmmaa
open Go.RowKit

/-- A cell beyond the elements is written. -/
theorem Own.beyond {α : Type} {R : Rep α} {w : World} {base g n cap j : Nat} {S : Nat → Prop} {e : TypeId} {l : List α} (hf : Flat R) (h : Own R w base S e (.slice (some ⟨g, 0, none⟩) n cap) l) (hj : l.length * R.size ≤ j) (u : Value) :
    Own R (w.setCell ⟨g, j, none⟩ u) base S e (.slice (some ⟨g, 0, none⟩) n cap) l := by
  refine ⟨fun b hb => by simpa using h.1 b hb, ?_⟩
  rcases h.2 with ⟨A, hv, rfl⟩ | ⟨g', cap', cur, xss, hv, hbg, hSg, hh, hle, hm, hsz, hr, htake⟩
  · exact .inl ⟨A, hv, rfl⟩
  · injection hv with hA hn hc
    injection hA with hA
    injection hA with hg _ _
    subst hg
    subst hn
    subst hc
    refine .inr ⟨g, cap, cur.setIfInBounds j u, xss, rfl, hbg, hSg, ?_, hle, hm, by rw [Array.size_setIfInBounds]; exact hsz, hr.flat hf, ?_⟩
    · simp [World.setCell, Array.getElem?_modify, hh]
    · rw [← htake, Array.toList_setIfInBounds, List.take_set_of_le hj]

theorem Own.beyonds {α : Type} {R : Rep α} {base g n cap : Nat} {S : Nat → Prop} {e : TypeId} {l : List α} (hf : Flat R) : ∀ (vs : List Value) (j : Nat) (w : World), Own R w base S e (.slice (some ⟨g, 0, none⟩) n cap) l → l.length * R.size ≤ j → Own R (w.setCells g j vs) base S e (.slice (some ⟨g, 0, none⟩) n cap) l
  | [], _, _, h, _ => h
  | v :: r, j, w, h, hj => Own.beyonds hf r (j + 1) _ (h.beyond hf hj v) (by omega)

/-- The elements ahead. -/
theorem Own.front {α : Type} {R : Rep α} {w : World} {base g n cap i : Nat} {S : Nat → Prop} {e : TypeId} {l : List α} (h : Own R w base S e (.slice (some ⟨g, 0, none⟩) n cap) l) (hi : i ≤ n) :
    Own R w base S e (.slice (some ⟨g, 0, none⟩) i cap) (l.take i) := by
  refine ⟨h.1, ?_⟩
  rcases h.2 with ⟨A, hv, rfl⟩ | ⟨g', cap', cur, xss, hv, hbg, hSg, hh, hle, hm, hsz, hr, htake⟩
  · injection hv with hA hn hc
    obtain rfl : i = 0 := by omega
    exact .inl ⟨_, by rw [hc], by simp⟩
  · injection hv with hA hn hc
    injection hA with hA
    injection hA with hg _ _
    subst hg
    subst hn
    subst hc
    have hl : (l.take i).length = i := by rw [List.length_take]; omega
    refine .inr ⟨g, cap, cur, xss.take i, by rw [hl], hbg, hSg, hh, by rw [hl]; omega, hm, hsz, hr.take i, ?_⟩
    rw [hl, flatten_take hr.lens, ← htake, List.take_take]
    congr 1
    have := Nat.mul_le_mul_right R.size hi
    omega

theorem own_row {w : World} {base g n cap k : Nat} {S : Nat → Prop} {e : TypeId} {l : List Row} {x : Row} (h : Own rowRep w base S e (.slice (some ⟨g, 0, none⟩) n cap) l) (hx : l[k]? = some x) (j : Nat) (hj : j < 2) :
    w.cell? ⟨g, k * 2 + j, none⟩ = x.cells[j]? ∧ w.frozen? ⟨g, k * 2 + j, none⟩ = false ∧ x.wf := by
  obtain ⟨cs, u, ⟨rfl, hw⟩, hu, hc, hf⟩ := h.cellAt hx (j := j) hj
  exact ⟨hc.trans hu.symm, hf, hw⟩
theorem own_row_set {w : World} {base g n cap k : Nat} {S : Nat → Prop} {e : TypeId} {l : List Row} {x y : Row} {j : Nat} {u : Value} (h : Own rowRep w base S e (.slice (some ⟨g, 0, none⟩) n cap) l) (hx : l[k]? = some x) (hj : j < 2) (hy : y.cells = x.cells.set j u) (hw : y.wf) :
    Own rowRep (w.setCell ⟨g, k * 2 + j, none⟩ u) base S e (.slice (some ⟨g, 0, none⟩) n cap) (l.set k y) :=
  Own.store (cs := x.cells) flat_row h hx (by rintro cs ⟨rfl, _⟩; rfl) hj ⟨hy.symm, hw⟩

/-! ### The closure: has a row the change's key? -/
theorem see1_any (k : Int) (s : ByteArray) (cb : Nat) (ck : Int) (w : World) (h : w.cell? ⟨cb, 1, none⟩ = some (.int .i64 ck)) :
    Calls Try.prog 158 #[.agg #[.int .i64 k, .string s], .pointer (some ⟨cb, 0, none⟩)] w fun e w' => e = .returned (.bool (k == ck)) ∧ Below w.heap.size w w' := by
  have hl : cb < w.heap.size := World.block_lt_of_cell? w _ h
  have h1 := (((Below.refl w.heap.size w).alloc (Nat.le_refl _) (.cells #[.int .i64 k, .string s] 80)).cell (p := ⟨cb, 1, none⟩) hl).trans h
  go_enter Try.func158, Try.ntmps158
  go_wp2
  go_ret
  exact ⟨rfl, (Below.refl _ _).alloc (Nat.le_refl _) _⟩

/-! ### IndexFunc -/
def seeF (cb : Nat) : Value := .func (.func 158) #[] #[.pointer (some ⟨cb, 0, none⟩)]

def IdxPost (l : List Row) (ck : Int) (r : Int) : Prop := (r = -1 ∧ ∀ x ∈ l, ¬ x.key = ck) ∨ (∃ (i : Nat) (x : Row), r = (i : Int) ∧ l[i]? = some x ∧ x.key = ck ∧ ∀ y ∈ l.take i, ¬ y.key = ck)

set_option maxHeartbeats 4000000 in
set_option maxRecDepth 100000 in
theorem idxfunc_any (A : Option Addr) (n c : Nat) (l : List Row) (cb : Nat) (ck : Int) (w : World) (h : IsSl rowRep w (· < w.heap.size) A n l) (hm : n ≤ maxLen) (hc : w.cell? ⟨cb, 1, none⟩ = some (.int .i64 ck)) :
    Calls Try.prog 165 #[.slice A n c, .func (.func 158) #[] #[.pointer (some ⟨cb, 0, none⟩)]] w fun e w' => ∃ r, e = .returned (.int .i64 r) ∧ IdxPost l ck r ∧ Below w.heap.size w w' := by
  unfold maxLen at hm
  have hcl : cb < w.heap.size := World.block_lt_of_cell? w _ hc
  have H := Lib.hid h
  have HL := Lib.hid h.len
  clear h
  go_enter Try.func165, Try.ntmps165
  go_wp2_with fail
  go_loopw [8] (fun i wr => ∃ p : Nat, i = .int .i64 p ∧ p ≤ n ∧ (∀ y ∈ l.take p, ¬ y.key = ck) ∧ Below w.heap.size w wr) (fun i _ => n - (intOf i).toNat)
  case atStart => exact ⟨0, rfl, Nat.zero_le _, by simp, Below.refl _ _⟩
  case round =>
    obtain ⟨p, rfl, hp, hall, hbel⟩ := hrel
    have HA := Lib.hid hall
    have hsz := hbel.size
    clear hall
    by_cases hlt : p < n
    · have hd : decide ((p : Int) < (n : Int)) = true := decide_eq_true (by omega)
      have hpi : (p : Int) < (n : Int) := by omega
      obtain ⟨b0, off, x, rfl, hbT, hx, hwf, k0, k1⟩ := H.out.row hlt (fun q hq => hbel.cell hq)
      have hcr := (hbel.cell (p := ⟨cb, 1, none⟩) hcl).trans hc
      have HTK := Lib.hid (show l.take (p + 1) = l.take p ++ [x] from take_snoc hx)
      have HX := Lib.hid hx
      obtain ⟨xk, xv⟩ := x
      dsimp only at k0 k1
      clear hx
      by_cases g1 : xk = ck
      · have e1 : (xk == ck) = true := by simpa using g1
        have HG := Lib.hid g1
        clear g1
        go_wp2_with (first
          | (go_at_call 158; (with_reducible refine (see1_any xk xv cb ck wr hcr).mono ?_); rintro e w2 ⟨rfl, bel2⟩; rw [e1]; have B2 := Lib.hid (hbel.trans (bel2.mono hsz)); clear bel2)
          | fail)
        go_ret
        exact ⟨_, rfl, .inr ⟨p, ⟨xk, xv⟩, rfl, HX.out, HG.out, HA.out⟩, B2.out⟩
      · have e1 : (xk == ck) = false := by simpa using g1
        have HG := Lib.hid g1
        clear g1
        go_wp2_with (first
          | (go_at_call 158; (with_reducible refine (see1_any xk xv cb ck wr hcr).mono ?_); rintro e w2 ⟨rfl, bel2⟩; rw [e1]; have B2 := Lib.hid (hbel.trans (bel2.mono hsz)); clear bel2)
          | fail)
        go_roundw
        case rel => exact ⟨p + 1, by go_num, by omega, by rw [HTK.out]; intro y hy; rcases List.mem_append.1 hy with h | h; exact HA.out y h; obtain rfl := List.mem_singleton.1 h; exact HG.out, B2.out⟩
        case measure => simp [intOf]; omega
    · obtain rfl : p = n := by omega
      have hd : decide ((p : Int) < (p : Int)) = false := by simp
      have HF := Lib.hid (show ∀ y ∈ l, ¬ y.key = ck by have := HA.out; rw [List.take_of_length_le (by rw [← HL.out]; exact Nat.le_refl _)] at this; exact this)
      go_wp2
      go_ret
      exact ⟨_, rfl, .inl ⟨rfl, HF.out⟩, hbel⟩
end Go.Proofs.Ythhpddiicnjmmaa

set_option linter.unusedVariables false
set_option linter.unusedSimpArgs false
set_option maxRecDepth 100000
namespace Go.Proofs.Ythhpddiicnjmmaa
open Go.RowKit

def zeroRows (n : Nat) : List Value := (Builtin.zeroCells #[.int .i64 0, .string ByteArray.empty] n).toList

theorem zeroRows_len (n : Nat) : (zeroRows n).length = n * 2 := by unfold zeroRows Builtin.zeroCells; simp

theorem zeroRows_one (n : Nat) : ∀ v ∈ zeroRows n, v.oneCell' = true := by
  intro v hv
  unfold zeroRows Builtin.zeroCells at hv
  simp only [Array.toList_map, Array.toList_range, List.mem_map, List.mem_range] at hv
  obtain ⟨i, _, rfl⟩ := hv
  rcases Nat.mod_two_eq_zero_or_one i with h | h <;> (rw [show (#[Value.int IntKind.i64 0, Value.string ByteArray.empty] : Array Value).size = 2 from rfl, h]; rfl)

theorem run_clear_rows (w : World) (ty : TypeId) (b o n c : Nat) (hn : 0 < n)
    (hc : ∀ j, j < n * 2 → (w.cell? ⟨b, o + j, none⟩).isSome = true) (hf : ∀ j, j < n * 2 → w.frozen? ⟨b, o + j, none⟩ = false) :
    (Builtin.clear_ #[81] ty #[.slice (some ⟨b, o, none⟩) n c]).run Try.prog w = .ok (.tuple #[]) (w.setCells b o (zeroRows n)) := by
  have hv : ∀ w, (zeroValue 80).run Try.prog w = .ok (.agg #[.int .i64 0, .string ByteArray.empty]) w := fun _ => by kernel_rfl
  have hst := run_storeCells_cells (P := Try.prog) b o (zeroRows n) 0 w (by rw [zeroRows_len]; simpa only [Nat.add_zero] using hc) (by rw [zeroRows_len]; simpa only [Nat.add_zero] using hf) (zeroRows_one n)
  simp only [Nat.add_zero] at hst
  obtain ⟨m, rfl⟩ : ∃ m, n = m + 1 := ⟨n - 1, by omega⟩
  unfold zeroRows at hst ⊢
  simp [Builtin.clear_, run_underlying Try.underlying81, hv, Value.cells, hst]

/-- What a call leaves as it was: all old blocks but one. -/
def But (w : World) (v : Value) : Nat → Prop := fun k => k < w.heap.size ∧ rowOf v ≠ some k

theorem Rest.new {S : Nat → Prop} {a b c : World} (h : Rest S a b) (hS : ∀ k, S k → k < a.heap.size) (hb : Below b.heap.size b c) : Rest S a c :=
  h.below (fun k hk => Nat.lt_of_lt_of_le (hS k hk) h.size) hb

theorem Rest.sets {S : Nat → Prop} {a : World} {g : Nat} (hg : ¬ S g) : ∀ (vs : List Value) (o : Nat) (b : World), Rest S a b → Rest S a (b.setCells g o vs)
  | [], _, _, h => h
  | v :: r, o, b, h => Rest.sets hg r (o + 1) _ (h.set hg o v)

def keepK (ck : Int) (r : Row) : Bool := !(r.key == ck)

theorem filter_of {l : List Row} {ck : Int} (h : ∀ y ∈ l, ¬ y.key = ck) : l.filter (keepK ck) = l := by
  rw [List.filter_eq_self]
  intro y hy
  unfold keepK
  simp [h y hy]

/-- The second loop of DeleteFunc at i, j: what the row holds. -/
structure Del (l : List Row) (ck : Int) (n i j : Nat) (cur : List Row) : Prop where
  len : cur.length = n
  ij : i < j
  jn : j ≤ n
  done : cur.take i = (l.take j).filter (keepK ck)
  rest : cur.drop j = l.drop j

theorem Del.at_ {l : List Row} {ck : Int} {n i j : Nat} {cur : List Row} {x : Row} (h : Del l ck n i j cur) (hx : l[j]? = some x) : cur[j]? = some x := by
  have := congrArg (·[0]?) h.rest
  simp only [List.getElem?_drop, Nat.add_zero] at this
  rw [this]; exact hx

theorem Del.skip {l : List Row} {ck : Int} {n i j : Nat} {cur : List Row} {x : Row} (h : Del l ck n i j cur) (hj : j < n) (hx : l[j]? = some x) (hk : x.key = ck) : Del l ck n i (j + 1) cur := by
  refine ⟨h.len, by have := h.ij; omega, hj, ?_, ?_⟩
  · rw [take_snoc hx, List.filter_append, h.done]
    have : keepK ck x = false := by unfold keepK; simp [hk]
    simp [this]
  · have := congrArg (List.drop 1) h.rest
    rw [List.drop_drop, List.drop_drop] at this
    exact this

theorem Del.keep {l : List Row} {ck : Int} {n i j : Nat} {cur : List Row} {x : Row} (h : Del l ck n i j cur) (hj : j < n) (hx : l[j]? = some x) (hk : ¬ x.key = ck) : Del l ck n (i + 1) (j + 1) (cur.set i x) := by
  have hij := h.ij
  have hln := h.len
  refine ⟨by rw [List.length_set]; exact h.len, by omega, hj, ?_, ?_⟩
  · rw [take_snoc hx, List.filter_append, ← h.done]
    have : keepK ck x = true := by unfold keepK; simp [hk]
    simp only [List.filter_cons, this, if_true, List.filter_nil]
    rw [List.take_add_one, List.take_set_of_le (Nat.le_refl i), List.getElem?_set_self (by omega)]
    rfl
  · have := congrArg (List.drop 1) h.rest
    rw [List.drop_drop, List.drop_drop] at this
    rw [List.drop_set_of_lt (by omega)]
    exact this

set_option maxHeartbeats 8000000 in
set_option maxRecDepth 100000 in
theorem delfunc_any (A : Option Addr) (n c : Nat) (l : List Row) (cb : Nat) (ck : Int) (w : World) (h : Own rowRep w 0 (fun _ => False) 80 (.slice A n c) l) (hn : n ≤ 100000) (hc : w.cell? ⟨cb, 1, none⟩ = some (.int .i64 ck)) (hne : rowOf (.slice A n c) ≠ some cb) :
    Calls Try.prog 157 #[.slice A n c, .func (.func 158) #[] #[.pointer (some ⟨cb, 0, none⟩)]] w fun e w' => ∃ m, e = .returned (.slice A m c) ∧ Own rowRep w' 0 (fun _ => False) 80 (.slice A m c) (l.filter (keepK ck)) ∧ Rest (But w (.slice A n c)) w w' := by
  have hcl : cb < w.heap.size := World.block_lt_of_cell? w _ hc
  have hlen : l.length = n := by obtain ⟨_, _, hv⟩ := h.form; injection hv with _ h2 _; exact h2.symm
  have hcap : n ≤ c ∧ c ≤ maxLen := by
    obtain ⟨_, _, hv, h1, h2, _⟩ := h.isSlB
    injection hv with _ _ h3
    subst h3
    rw [hlen] at h1
    exact ⟨h1, h2⟩
  have sl : IsSl rowRep w (· < w.heap.size) A n l := by
    obtain ⟨_, _, hv, _, _, sl⟩ := h.isSlB
    rw [hlen] at hv sl
    injection hv with h1 _ _
    rw [h1]; exact sl
  have H := Lib.hid h
  have SL := Lib.hid sl
  have HLN := Lib.hid hlen
  have hcm := hcap.2
  have hnc := hcap.1
  unfold maxLen at hcm
  have HB : ∀ k, But w (.slice A n c) k → k < w.heap.size := fun k hk => hk.1
  clear h sl hlen hcap
  go_enter Try.func157, Try.ntmps157
  go_wp2_with (first
    | (go_at_call 165; (with_reducible refine (idxfunc_any A n c l cb ck w SL.out (by unfold maxLen; omega) hc).mono ?_); rintro e w1 ⟨r, rfl, hr, bel1⟩; rcases hr with ⟨rfl, hall⟩ | ⟨i0, x0, rfl, hx0, hk0, hall⟩)
    | fail)
  · have HA := Lib.hid hall
    have O1 := Lib.hid (H.out.below bel1)
    have R1 := Lib.hid ((Rest.refl (But w (.slice A n c)) w).new HB bel1)
    clear hall bel1
    go_wp2
    go_ret
    exact ⟨n, rfl, by rw [filter_of HA.out]; exact O1.out, R1.out⟩
  · have hi0 : i0 < n := by rw [← HLN.out]; exact (List.getElem?_eq_some_iff.1 hx0).1
    have O1 := Lib.hid (H.out.below bel1)
    have R1 := Lib.hid ((Rest.refl (But w (.slice A n c)) w).new HB bel1)
    obtain ⟨b1, off1, _, _, rfl, _⟩ := SL.out.at_ hi0
    obtain ⟨g, rfl, rfl⟩ : ∃ g, b1 = g ∧ off1 = 0 := by
      obtain ⟨g, cap, hv, _⟩ := H.out.form1 (by intro h0; rw [h0] at hx0; simp at hx0)
      injection hv with hA _ _
      injection hA with hA
      injection hA with h1 h2 _
      exact ⟨b1, rfl, h2⟩
    have hrow : rowOf (.slice (some ⟨b1, 0, none⟩) n c) = some b1 := by
      obtain ⟨c', rfl⟩ : ∃ c', c = c' + 1 := ⟨c - 1, by omega⟩
      rfl
    have hgcb : b1 ≠ cb := fun e => hne (by rw [hrow, e])
    have hnB : ¬ But w (.slice (some ⟨b1, 0, none⟩) n c) b1 := fun hk => hk.2 hrow
    have hcB : But w (.slice (some ⟨b1, 0, none⟩) n c) cb := ⟨hcl, hne⟩
    have HD := Lib.hid (show Del l ck n i0 (i0 + 1) l from ⟨HLN.out, by omega, by omega, by rw [take_snoc hx0, List.filter_append, filter_of hall]; simp [keepK, hk0], rfl⟩)
    have he1 : ((i0 : Int) == -1) = false := by
      rw [beq_eq_false_iff_ne]
      omega
    have HI1 := Lib.hid (show Value.int .i64 (wrap64 ((i0 : Int) + 1)) = Value.int .i64 ((i0 + 1 : Nat) : Int) by rw [show wrap64 ((i0 : Int) + 1) = ((i0 + 1 : Nat) : Int) by unfold wrap64; omega])
    clear hall hx0 hk0 bel1 hrow
    go_wp2_with fail
    go_loopw [5, 6] (fun vi vj wr => ∃ (i j : Nat) (cur : List Row), vi = .int .i64 i ∧ vj = .int .i64 j ∧ Del l ck n i j cur ∧ Own rowRep wr 0 (fun _ => False) 80 (.slice (some ⟨b1, 0, none⟩) n c) cur ∧ Rest (But w (.slice (some ⟨b1, 0, none⟩) n c)) w wr) (fun _ vj _ => n - (intOf vj).toNat)
    case atStart => exact ⟨i0, i0 + 1, l, rfl, HI1.out, HD.out, O1.out, R1.out⟩
    case round =>
      obtain ⟨i, j, cur, rfl, rfl, hdel, hown, hrest⟩ := hrel
      have D := Lib.hid hdel
      have O := Lib.hid hown
      have R := Lib.hid hrest
      have hij := hdel.ij
      have hjn := hdel.jn
      have hlc := hdel.len
      have hcr : wr.cell? ⟨cb, 1, none⟩ = some (.int .i64 ck) := (World.cell?_of_block (hrest.block cb hcB)).trans hc
      have hgw : b1 < wr.heap.size := hown.row_lt (by obtain ⟨c', rfl⟩ : ∃ c', c = c' + 1 := ⟨c - 1, by omega⟩; rfl)
      have HLC := Lib.hid hlc
      clear hdel hown hrest hlc
      by_cases hlt : j < n
      · have hd : decide ((j : Int) < (n : Int)) = true := decide_eq_true (by omega)
        have hji : (j : Int) < (n : Int) := by omega
        have hii : (i : Int) < (n : Int) := by omega
        obtain ⟨x, hx⟩ : ∃ x, l[j]? = some x := ⟨_, List.getElem?_eq_getElem (by rw [HLN.out]; exact hlt)⟩
        have HX := Lib.hid hx
        have hcx := D.out.at_ hx
        have q0 : wr.cell? ⟨b1, j * 2, none⟩ = some (.int .i64 x.key) := (own_row O.out hcx 0 (by omega)).1
        have q1 : wr.cell? ⟨b1, j * 2 + 1, none⟩ = some (.string x.val) := (own_row O.out hcx 1 (by omega)).1
        have HW := Lib.hid (own_row O.out hcx 1 (by omega)).2.2
        obtain ⟨xk, xv⟩ := x
        dsimp only at q0 q1
        obtain ⟨y, hy⟩ : ∃ y, cur[i]? = some y := ⟨_, List.getElem?_eq_getElem (by rw [HLC.out]; omega)⟩
        have HY := Lib.hid hy
        clear hx hcx hy
        have HWA := Lib.hid (show ∀ o w2, Below (wr.alloc o).heap.size (wr.alloc o) w2 → Own rowRep w2 0 (fun _ => False) 80 (.slice (some ⟨b1, 0, none⟩) n c) cur ∧ Rest (But w (.slice (some ⟨b1, 0, none⟩) n c)) w w2 from fun o w2 hb => ⟨(O.out.alloc o).below hb, (R.out.new HB ((Below.refl _ _).alloc (Nat.le_refl _) o)).new HB hb⟩)
        have ha : ∀ o, (wr.alloc o).cell? ⟨cb, 1, none⟩ = some (.int .i64 ck) := fun o => (((Below.refl wr.heap.size wr).alloc (Nat.le_refl _) o).cell (World.block_lt_of_cell? wr _ hcr)).trans hcr
        by_cases g1 : xk = ck
        · have e1 : (xk == ck) = true := by simpa using g1
          have HG := Lib.hid g1
          clear g1
          go_wp2_with (first
            | (go_at_call 158; (with_reducible refine (see1_any xk xv cb ck _ (ha _)).mono ?_); rintro e w2 ⟨rfl, bel2⟩; rw [e1]; have OR := Lib.hid (HWA.out _ w2 bel2); clear bel2)
            | fail)
          go_roundw
          case rel =>
            refine ⟨_, _, _, _, _, _, _, _, _, _, _, _, _, _, _, _, _, _, _, _, _, _, _, ?_, rfl⟩
            exact ⟨i, j + 1, cur, rfl, by go_num, D.out.skip hlt HX.out HG.out, OR.out.1, OR.out.2⟩
          case measure => simp [intOf]; omega
        · have e1 : (xk == ck) = false := by simpa using g1
          have HG := Lib.hid g1
          clear g1
          go_wp2_with (first
            | (go_at_call 158; (with_reducible refine (see1_any xk xv cb ck _ (ha _)).mono ?_); rintro e w2 ⟨rfl, bel2⟩; rw [e1]; have OR := Lib.hid (HWA.out _ w2 bel2); have p0 : w2.cell? ⟨b1, i * 2, none⟩ = some (.int .i64 y.key) := (own_row OR.out.1 HY.out 0 (by omega)).1; have p1 : w2.cell? ⟨b1, i * 2 + 1, none⟩ = some (.string y.val) := (own_row OR.out.1 HY.out 1 (by omega)).1; have z0 : w2.frozen? ⟨b1, i * 2, none⟩ = false := (own_row OR.out.1 HY.out 0 (by omega)).2.1; have z1 := (own_row OR.out.1 HY.out 1 (by omega)).2.1; have v0 : w2.cell? ⟨wr.heap.size, 0, none⟩ = some (.int .i64 xk) := (bel2.cell (p := ⟨wr.heap.size, 0, none⟩) (by simp)).trans (World.cell?_alloc_at _ _ _ _ rfl); have v1 : w2.cell? ⟨wr.heap.size, 1, none⟩ = some (.string xv) := (bel2.cell (p := ⟨wr.heap.size, 1, none⟩) (by simp)).trans (World.cell?_alloc_at _ _ _ _ rfl); clear bel2)
            | fail)
          go_roundw
          case rel =>
            have o1 := own_row_set (j := 0) (y := ⟨xk, y.val⟩) (u := .int .i64 xk) OR.out.1 HY.out (by omega) rfl ⟨HW.out.1, (own_row OR.out.1 HY.out 0 (by omega)).2.2.2⟩
            have e1 : (cur.set i ⟨xk, y.val⟩)[i]? = some ⟨xk, y.val⟩ := List.getElem?_set_self (by rw [HLC.out]; omega)
            have o2 := own_row_set (j := 1) (y := ⟨xk, xv⟩) (u := .string xv) o1 e1 (by omega) rfl HW.out
            rw [List.set_set] at o2
            refine ⟨_, _, _, _, _, _, _, _, _, _, _, _, _, _, _, _, _, _, _, _, _, _, _, ?_, rfl⟩
            exact ⟨i + 1, j + 1, cur.set i ⟨xk, xv⟩, by go_num, by go_num, D.out.keep hlt HX.out HG.out, o2, (OR.out.2.set hnB _ _).set hnB _ _⟩
          case measure => simp [intOf]; omega
      · obtain rfl : j = n := by omega
        have hd : decide ((j : Int) < (j : Int)) = false := by simp
        have hcell : ∀ k, k < (j - i) * 2 → (wr.cell? ⟨b1, i * 2 + k, none⟩).isSome = true ∧ wr.frozen? ⟨b1, i * 2 + k, none⟩ = false := by
          intro k hk
          obtain ⟨y, hy⟩ : ∃ y, cur[i + k / 2]? = some y := ⟨_, List.getElem?_eq_getElem (by rw [HLC.out]; omega)⟩
          have hh := own_row O.out hy (k % 2) (by omega)
          rw [show (i + k / 2) * 2 + k % 2 = i * 2 + k by omega] at hh
          refine ⟨?_, hh.2.1⟩
          rw [hh.1]
          rcases Nat.mod_two_eq_zero_or_one k with h | h <;> (rw [h]; rfl)
        have hcl2 : ∀ ty, (Builtin.clear_ #[81] ty #[.slice (some ⟨b1, i * 2, none⟩) (j - i) (c - i)]).run Try.prog wr = .ok (.tuple #[]) (wr.setCells b1 (i * 2) (zeroRows (j - i))) := fun ty => run_clear_rows wr ty b1 (i * 2) (j - i) (c - i) (by omega) (fun k hk => (hcell k hk).1) (fun k hk => (hcell k hk).2)
        have HF := Lib.hid (show cur.take i = l.filter (keepK ck) by have := D.out.done; rw [List.take_of_length_le (l := l) (by rw [HLN.out]; exact Nat.le_refl _)] at this; exact this)
        have hij2 : (i : Int) ≤ (j : Int) := by omega
        have hic : (i : Int) ≤ (c : Int) := by omega
        clear hcell
        go_wp2
        go_ret
        refine ⟨i, rfl, ?_, R.out.sets hnB _ _⟩
        rw [← HF.out]
        have o := O.out.front (i := i) (by omega)
        exact Own.beyonds flat_row _ _ _ o (by rw [List.length_take]; show min i cur.length * 2 ≤ i * 2; omega)
end Go.Proofs.Ythhpddiicnjmmaa
