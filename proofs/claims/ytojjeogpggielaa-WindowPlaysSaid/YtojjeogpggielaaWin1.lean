/- Contracts of the window: New, Open, Shut, Low, what it tells. -/
import Derived.Test.YtojjeogpggielaaPlanT
import Derived.Test.YtojjeogpggielaaBlk
import Derived.Test.YtojjeogpggielaaFldA
import Derived.Test.YtojjeogpggielaaHelpL
set_option linter.unusedVariables false
set_option linter.unusedSimpArgs false
namespace Go.Proofs.Ytojjeogpggielaa
open Go.RowKit

/-- A window. -/
structure Win where
  mark : Int
  after : Int
  id : Int
  table : Int
  rows : List Row
  cursor : Int
  last : Bool
  n : Int
  state : Int

/-- What a call leaves as it was: the blocks in S. -/
structure Rest (S : Nat → Prop) (w w' : World) : Prop where
  os : w'.os = w.os
  tape : w'.tape = w.tape
  output : w'.output = w.output
  size : w.heap.size ≤ w'.heap.size
  block : ∀ k, S k → w'.heap[k]? = w.heap[k]?

theorem Rest.refl (S : Nat → Prop) (w : World) : Rest S w w := ⟨rfl, rfl, rfl, Nat.le_refl _, fun _ _ => rfl⟩
theorem Rest.trans {S : Nat → Prop} {a b c : World} (h : Rest S a b) (k : Rest S b c) : Rest S a c :=
  ⟨k.os.trans h.os, k.tape.trans h.tape, k.output.trans h.output, Nat.le_trans h.size k.size, fun i hi => (k.block i hi).trans (h.block i hi)⟩
theorem Rest.set {S : Nat → Prop} {a b : World} (h : Rest S a b) {g : Nat} (hg : ¬ S g) (j : Nat) (v : Value) : Rest S a (b.setCell ⟨g, j, none⟩ v) := by
  have gr := grown_setB b ⟨g, j, none⟩ v
  exact ⟨gr.os.trans h.os, gr.tape.trans h.tape, gr.output.trans h.output, Nat.le_trans h.size gr.size, fun k hk => (Below.heap_setCell b ⟨g, j, none⟩ v k (fun e => hg (by have e' : k = g := e; rw [← e']; exact hk))).trans (h.block k hk)⟩
theorem Rest.below {S : Nat → Prop} {a b c : World} (h : Rest S a b) (hS : ∀ k, S k → k < b.heap.size) (hb : Below b.heap.size b c) : Rest S a c :=
  ⟨hb.os.trans h.os, hb.tape.trans h.tape, hb.output.trans h.output, Nat.le_trans h.size hb.size, fun k hk => (hb.block k (hS k hk)).trans (h.block k hk)⟩
theorem Rest.less {S S' : Nat → Prop} {a b : World} (h : Rest S a b) (hS : ∀ k, S' k → S k) : Rest S' a b := ⟨h.os, h.tape, h.output, h.size, fun k hk => h.block k (hS k hk)⟩
theorem Rest.toBelow {S : Nat → Prop} {a b : World} {B : Nat} (h : Rest S a b) (hS : ∀ k, k < B → S k) : Below B a b := ⟨h.os, h.tape, h.output, h.size, fun k hk => h.block k (hS k hk)⟩
theorem IsSl.rest {α : Type} {R : Rep α} {w w' : World} {S T : Nat → Prop} {A : Option Addr} {n : Nat} {l : List α} (h : IsSl R w T A n l) (hr : Rest S w w') (hT : ∀ k, T k → S k) : IsSl R w' T A n l :=
  h.keep fun p hp => World.cell?_of_block (hr.block _ (hT _ hp))
theorem Blk.rest {w w' : World} {S : Nat → Prop} {b : Nat} {cs : List Value} (h : Blk w b cs) (hr : Rest S w w') (hb : S b) : Blk w' b cs := h.same (hr.block b hb) hr.size

/-- A window at block g, the row of its rows in rv; neither is among the blocks in S. -/
structure WinAt (w : World) (S : Nat → Prop) (g : Nat) (x : Win) (rv : Value) : Prop where
  blk : Blk w g [.int .i64 x.mark, .int .i64 x.after, .int .i64 x.id, .int .i64 x.table, rv, .int .i64 x.cursor, .bool x.last, .int .i64 x.n, .int .i64 x.state]
  own : Own rowRep w 0 (fun _ => False) 55 rv x.rows
  ng : ¬ S g
  nr : ∀ r, rowOf rv = some r → ¬ S r ∧ r ≠ g
def WinOwn (w : World) (S : Nat → Prop) (g : Nat) (x : Win) : Prop := ∃ rv, WinAt w S g x rv

/-- Other blocks than the window's. -/
theorem WinAt.grown {w w' : World} {S : Nat → Prop} {g : Nat} {x : Win} {rv : Value} (h : WinAt w S g x rv) {row : Option Nat} (gr : w.grownBy w' row) (hr : ∀ k, row = some k → k ≠ g ∧ rowOf rv ≠ some k) : WinAt w' S g x rv :=
  ⟨h.blk.grown gr (fun k hk => Ne.symm (hr k hk).1), h.own.kept gr (fun k hk => ⟨(hr k hk).2, fun h => h⟩), h.ng, h.nr⟩
theorem WinAt.below {w w' : World} {S : Nat → Prop} {g : Nat} {x : Win} {rv : Value} (h : WinAt w S g x rv) (hb : Below w.heap.size w w') : WinAt w' S g x rv :=
  ⟨h.blk.after hb, h.own.below hb, h.ng, h.nr⟩
theorem WinAt.alloc {w : World} {S : Nat → Prop} {g : Nat} {x : Win} {rv : Value} (h : WinAt w S g x rv) (o : Obj) : WinAt (w.alloc o) S g x rv := h.below ((Below.refl _ _).alloc (Nat.le_refl _) o)
theorem WinOwn.below {w w' : World} {S : Nat → Prop} {g : Nat} {x : Win} (h : WinOwn w S g x) (hb : Below w.heap.size w w') : WinOwn w' S g x := by
  obtain ⟨rv, h⟩ := h; exact ⟨rv, h.below hb⟩
/-- Newer blocks, or fewer, are not the window's either. -/
theorem WinOwn.sets {w : World} {S S' : Nat → Prop} {g : Nat} {x : Win} (h : WinOwn w S g x) (hg : ¬ S' g) (hS : ∀ k, S' k → S k ∨ w.heap.size ≤ k) : WinOwn w S' g x := by
  obtain ⟨rv, h⟩ := h
  refine ⟨rv, h.blk, h.own, hg, fun r hr => ⟨fun hk => ?_, (h.nr r hr).2⟩⟩
  rcases hS r hk with h1 | h1
  · exact (h.nr r hr).1 h1
  · exact Nat.lt_irrefl _ (Nat.lt_of_lt_of_le (h.own.row_lt hr) h1)
theorem WinAt.lt {w : World} {S : Nat → Prop} {g : Nat} {x : Win} {rv : Value} (h : WinAt w S g x rv) : g < w.heap.size := h.blk.lt

theorem Own.setG {w : World} {rv : Value} {l : List Row} {e : TypeId} {g : Nat} (h : Own rowRep w 0 (fun _ => False) e rv l) (hg : ∀ r, rowOf rv = some r → r ≠ g) (j : Nat) (v : Value) : Own rowRep (w.setCell ⟨g, j, none⟩ v) 0 (fun _ => False) e rv l :=
  h.kept (grown_setB w ⟨g, j, none⟩ v) (fun k hk => by injection hk with hk; subst hk; exact ⟨fun e => hg _ e rfl, fun h => h⟩)

theorem Blk.c9 {w : World} {b : Nat} {v0 v1 v2 v3 v4 v5 v6 v7 v8 : Value} (h : Blk w b [v0, v1, v2, v3, v4, v5, v6, v7, v8]) : w.cell? ⟨b, 0, none⟩ = some v0 ∧ w.cell? ⟨b, 1, none⟩ = some v1 ∧ w.cell? ⟨b, 2, none⟩ = some v2 ∧ w.cell? ⟨b, 3, none⟩ = some v3 ∧ w.cell? ⟨b, 4, none⟩ = some v4 ∧ w.cell? ⟨b, 5, none⟩ = some v5 ∧ w.cell? ⟨b, 6, none⟩ = some v6 ∧ w.cell? ⟨b, 7, none⟩ = some v7 ∧ w.cell? ⟨b, 8, none⟩ = some v8 ∧ (∀ j, w.frozen? ⟨b, j, none⟩ = false) := ⟨h.1 0 _ rfl, h.1 1 _ rfl, h.1 2 _ rfl, h.1 3 _ rfl, h.1 4 _ rfl, h.1 5 _ rfl, h.1 6 _ rfl, h.1 7 _ rfl, h.1 8 _ rfl, h.2.1⟩

/-! ### New -/
def win0 (n : Int) : Win := ⟨0, 0, 0, 0, [], 0, false, n, 0⟩

theorem winnew_ok (n : Int) (w : World) (h1 : 1 ≤ n) (h2 : n ≤ 64) (S : Nat → Prop) (hS : ∀ k, S k → k < w.heap.size) :
    Calls Try.prog 16 #[.int .i64 n] w fun e w' => e = .returned (.tuple #[.pointer (some ⟨w.heap.size, 0, none⟩), .int .i64 0]) ∧ WinOwn w' S w.heap.size (win0 n) ∧ Below w.heap.size w w' := by
  have d1 : decide (n < 1) = false := decide_eq_false (by omega)
  have d2 : decide (64 < n) = false := decide_eq_false (by omega)
  go_enter Try.func16, Try.ntmps16
  go_wp2
  go_ret2
  exact ⟨rfl, ⟨_, Blk.new rfl rfl, Own.nil _ _ _ (fun _ h => h.elim) _ none, fun h => Nat.lt_irrefl _ (hS _ h), fun r hr => by simp [rowOf] at hr⟩, (Below.refl _ _).alloc (Nat.le_refl _) _⟩

theorem winnew_no (n : Int) (w : World) (h : n < 1 ∨ 64 < n) :
    Calls Try.prog 16 #[.int .i64 n] w fun e w' => e = .returned (.tuple #[.pointer none, .int .i64 1]) ∧ w = w' := by
  by_cases h1 : n < 1
  · have d1 : decide (n < 1) = true := decide_eq_true h1
    go_enter Try.func16, Try.ntmps16
    go_wp2
    go_ret2
    exact ⟨rfl, rfl⟩
  · have d1 : decide (n < 1) = false := decide_eq_false h1
    have d2 : decide (64 < n) = true := decide_eq_true (by omega)
    go_enter Try.func16, Try.ntmps16
    go_wp2
    go_ret2
    exact ⟨rfl, rfl⟩


theorem winState_any (g : Nat) (S : Nat → Prop) (x : Win) (w : World) (h : WinOwn w S g x) :
    Calls Try.prog 31 #[.pointer (some ⟨g, 0, none⟩)] w fun e w' => e = .returned (.int .i64 x.state) ∧ w = w' := by
  obtain ⟨rv, h⟩ := h
  obtain ⟨c0, c1, c2, c3, c4, c5, c6, c7, c8, cz⟩ := h.blk.c9
  go_enter Try.func31, Try.ntmps31
  go_wp2
  go_ret
  exact ⟨rfl, rfl⟩

theorem winMark_any (g : Nat) (S : Nat → Prop) (x : Win) (w : World) (h : WinOwn w S g x) :
    Calls Try.prog 75 #[.pointer (some ⟨g, 0, none⟩)] w fun e w' => e = .returned (.int .i64 x.mark) ∧ w = w' := by
  obtain ⟨rv, h⟩ := h
  obtain ⟨c0, c1, c2, c3, c4, c5, c6, c7, c8, cz⟩ := h.blk.c9
  go_enter Try.func75, Try.ntmps75
  go_wp2
  go_ret
  exact ⟨rfl, rfl⟩

theorem winID_any (g : Nat) (S : Nat → Prop) (x : Win) (w : World) (h : WinOwn w S g x) :
    Calls Try.prog 76 #[.pointer (some ⟨g, 0, none⟩)] w fun e w' => e = .returned (.int .i64 x.id) ∧ w = w' := by
  obtain ⟨rv, h⟩ := h
  obtain ⟨c0, c1, c2, c3, c4, c5, c6, c7, c8, cz⟩ := h.blk.c9
  go_enter Try.func76, Try.ntmps76
  go_wp2
  go_ret
  exact ⟨rfl, rfl⟩

theorem winTable_any (g : Nat) (S : Nat → Prop) (x : Win) (w : World) (h : WinOwn w S g x) :
    Calls Try.prog 77 #[.pointer (some ⟨g, 0, none⟩)] w fun e w' => e = .returned (.int .i64 x.table) ∧ w = w' := by
  obtain ⟨rv, h⟩ := h
  obtain ⟨c0, c1, c2, c3, c4, c5, c6, c7, c8, cz⟩ := h.blk.c9
  go_enter Try.func77, Try.ntmps77
  go_wp2
  go_ret
  exact ⟨rfl, rfl⟩

theorem winAfter_any (g : Nat) (S : Nat → Prop) (x : Win) (w : World) (h : WinOwn w S g x) :
    Calls Try.prog 78 #[.pointer (some ⟨g, 0, none⟩)] w fun e w' => e = .returned (.int .i64 x.after) ∧ w = w' := by
  obtain ⟨rv, h⟩ := h
  obtain ⟨c0, c1, c2, c3, c4, c5, c6, c7, c8, cz⟩ := h.blk.c9
  go_enter Try.func78, Try.ntmps78
  go_wp2
  go_ret
  exact ⟨rfl, rfl⟩

/-! ### Open -/
def Win.openOk (x : Win) (mark id table after : Int) : Bool := decide (x.state = 0 ∧ 1 ≤ mark ∧ mark ≤ 1099511627776 ∧ 1 ≤ id ∧ id ≤ 64 ∧ 0 ≤ table ∧ table < 8 ∧ 0 ≤ after ∧ after ≤ 1099511627776)
def Win.opened (x : Win) (mark id table after : Int) : Win := if x.openOk mark id table after = true then ⟨mark, after, id, table, [], 0, false, x.n, 1⟩ else x

set_option maxHeartbeats 4000000 in
set_option maxRecDepth 100000 in
theorem winopen_any (g : Nat) (S : Nat → Prop) (x : Win) (mark id table after : Int) (w : World) (hS : ∀ k, S k → k < w.heap.size) (h : WinOwn w S g x) :
    Calls Try.prog 21 #[.pointer (some ⟨g, 0, none⟩), .int .i64 mark, .int .i64 id, .int .i64 table, .int .i64 after] w fun e w' => e = .returned (.bool (x.openOk mark id table after)) ∧ WinOwn w' S g (x.opened mark id table after) ∧ Rest S w w' := by
  have H := Lib.hid h
  obtain ⟨rv, h⟩ := h
  obtain ⟨c0, c1, c2, c3, c4, c5, c6, c7, c8, cz⟩ := h.blk.c9
  have HA := Lib.hid h
  clear h
  obtain ⟨xm, xa, xi, xt, xr, xc, xl, xn, xs⟩ := x
  dsimp only at c0 c1 c2 c3 c4 c5 c6 c7 c8
  by_cases h0 : ¬ xs = 0
  · have HF := Lib.hid (show Win.openOk ⟨xm, xa, xi, xt, xr, xc, xl, xn, xs⟩ mark id table after = false from decide_eq_false (fun h => h0 h.1))
    have d0 : (xs == 0) = false := by simpa using h0
    have d0n : (xs != 0) = true := by simpa using h0
    have d0d : decide (xs = 0) = false := decide_eq_false h0
    clear h0
    go_enter Try.func21, Try.ntmps21
    go_wp2
    go_ret
    unfold Win.opened
    rw [HF.out]
    exact ⟨rfl, H.out, Rest.refl _ _⟩
  obtain rfl : xs = 0 := Classical.byContradiction h0
  clear h0
  by_cases h1 : ¬ (1 ≤ mark)
  · have HF := Lib.hid (show Win.openOk ⟨xm, xa, xi, xt, xr, xc, xl, xn, 0⟩ mark id table after = false from decide_eq_false (fun h => h1 h.2.1))
    have d1 : decide (mark < 1) = true := decide_eq_true (by omega)
    clear h1
    go_enter Try.func21, Try.ntmps21
    go_wp2
    go_ret
    unfold Win.opened
    rw [HF.out]
    exact ⟨rfl, H.out, Rest.refl _ _⟩
  replace h1 : 1 ≤ mark := Classical.byContradiction h1
  have d1 : decide (mark < 1) = false := decide_eq_false (by omega)
  by_cases h2 : ¬ (mark ≤ 1099511627776)
  · have HF := Lib.hid (show Win.openOk ⟨xm, xa, xi, xt, xr, xc, xl, xn, 0⟩ mark id table after = false from decide_eq_false (fun h => h2 h.2.2.1))
    have d2 : decide (1099511627776 < mark) = true := decide_eq_true (by omega)
    clear h2
    go_enter Try.func21, Try.ntmps21
    go_wp2
    go_ret
    unfold Win.opened
    rw [HF.out]
    exact ⟨rfl, H.out, Rest.refl _ _⟩
  replace h2 : mark ≤ 1099511627776 := Classical.byContradiction h2
  have d2 : decide (1099511627776 < mark) = false := decide_eq_false (by omega)
  by_cases h3 : ¬ (1 ≤ id)
  · have HF := Lib.hid (show Win.openOk ⟨xm, xa, xi, xt, xr, xc, xl, xn, 0⟩ mark id table after = false from decide_eq_false (fun h => h3 h.2.2.2.1))
    have d3 : decide (id < 1) = true := decide_eq_true (by omega)
    clear h3
    go_enter Try.func21, Try.ntmps21
    go_wp2
    go_ret
    unfold Win.opened
    rw [HF.out]
    exact ⟨rfl, H.out, Rest.refl _ _⟩
  replace h3 : 1 ≤ id := Classical.byContradiction h3
  have d3 : decide (id < 1) = false := decide_eq_false (by omega)
  by_cases h4 : ¬ (id ≤ 64)
  · have HF := Lib.hid (show Win.openOk ⟨xm, xa, xi, xt, xr, xc, xl, xn, 0⟩ mark id table after = false from decide_eq_false (fun h => h4 h.2.2.2.2.1))
    have d4 : decide (64 < id) = true := decide_eq_true (by omega)
    clear h4
    go_enter Try.func21, Try.ntmps21
    go_wp2
    go_ret
    unfold Win.opened
    rw [HF.out]
    exact ⟨rfl, H.out, Rest.refl _ _⟩
  replace h4 : id ≤ 64 := Classical.byContradiction h4
  have d4 : decide (64 < id) = false := decide_eq_false (by omega)
  by_cases h5 : ¬ (0 ≤ table)
  · have HF := Lib.hid (show Win.openOk ⟨xm, xa, xi, xt, xr, xc, xl, xn, 0⟩ mark id table after = false from decide_eq_false (fun h => h5 h.2.2.2.2.2.1))
    have d5 : decide (table < 0) = true := decide_eq_true (by omega)
    clear h5
    go_enter Try.func21, Try.ntmps21
    go_wp2
    go_ret
    unfold Win.opened
    rw [HF.out]
    exact ⟨rfl, H.out, Rest.refl _ _⟩
  replace h5 : 0 ≤ table := Classical.byContradiction h5
  have d5 : decide (table < 0) = false := decide_eq_false (by omega)
  by_cases h6 : ¬ (table < 8)
  · have HF := Lib.hid (show Win.openOk ⟨xm, xa, xi, xt, xr, xc, xl, xn, 0⟩ mark id table after = false from decide_eq_false (fun h => h6 h.2.2.2.2.2.2.1))
    have d6 : decide (8 ≤ table) = true := decide_eq_true (by omega)
    clear h6
    go_enter Try.func21, Try.ntmps21
    go_wp2
    go_ret
    unfold Win.opened
    rw [HF.out]
    exact ⟨rfl, H.out, Rest.refl _ _⟩
  replace h6 : table < 8 := Classical.byContradiction h6
  have d6 : decide (8 ≤ table) = false := decide_eq_false (by omega)
  by_cases h7 : ¬ (0 ≤ after)
  · have HF := Lib.hid (show Win.openOk ⟨xm, xa, xi, xt, xr, xc, xl, xn, 0⟩ mark id table after = false from decide_eq_false (fun h => h7 h.2.2.2.2.2.2.2.1))
    have d7 : decide (after < 0) = true := decide_eq_true (by omega)
    clear h7
    go_enter Try.func21, Try.ntmps21
    go_wp2
    go_ret
    unfold Win.opened
    rw [HF.out]
    exact ⟨rfl, H.out, Rest.refl _ _⟩
  replace h7 : 0 ≤ after := Classical.byContradiction h7
  have d7 : decide (after < 0) = false := decide_eq_false (by omega)
  by_cases h8 : ¬ (after ≤ 1099511627776)
  · have HF := Lib.hid (show Win.openOk ⟨xm, xa, xi, xt, xr, xc, xl, xn, 0⟩ mark id table after = false from decide_eq_false (fun h => h8 h.2.2.2.2.2.2.2.2))
    have d8 : decide (1099511627776 < after) = true := decide_eq_true (by omega)
    clear h8
    go_enter Try.func21, Try.ntmps21
    go_wp2
    go_ret
    unfold Win.opened
    rw [HF.out]
    exact ⟨rfl, H.out, Rest.refl _ _⟩
  replace h8 : after ≤ 1099511627776 := Classical.byContradiction h8
  have d8 : decide (1099511627776 < after) = false := decide_eq_false (by omega)
  have HT := Lib.hid (show Win.openOk ⟨xm, xa, xi, xt, xr, xc, xl, xn, 0⟩ mark id table after = true from decide_eq_true ⟨rfl, h1, h2, h3, h4, h5, h6, h7, h8⟩)
  clear h1 h2 h3 h4 h5 h6 h7 h8
  go_enter Try.func21, Try.ntmps21
  go_wp2
  go_ret
  unfold Win.opened
  rw [HT.out]
  refine ⟨rfl, ⟨.slice none 0 0, ?_, Own.nil _ _ _ (fun _ h => h.elim) _ none, HA.out.ng, fun r hr => by simp [rowOf] at hr⟩, ?_⟩
  · exact ((((((((HA.out.blk.put (j := 0) (by simp) _ rfl).put (j := 1) (by simp) _ rfl).put (j := 2) (by simp) _ rfl).put (j := 3) (by simp) _ rfl).put (j := 4) (by simp) _ rfl).put (j := 5) (by simp) _ rfl).put (j := 6) (by simp) _ rfl).put (j := 8) (by simp) _ rfl)
  · exact ((((((((Rest.refl S w).set HA.out.ng 0 _).set HA.out.ng 1 _).set HA.out.ng 2 _).set HA.out.ng 3 _).set HA.out.ng 4 _).set HA.out.ng 5 _).set HA.out.ng 6 _).set HA.out.ng 8 _

/-! ### Shut, Low -/
def Win.shut (x : Win) : Win := if x.state = 2 then { x with state := 3 } else x
def Win.low (x : Win) (mark : Int) : Win := if x.state = 3 ∧ mark = x.mark then { x with state := 4 } else x

theorem winshut_any (g : Nat) (S : Nat → Prop) (x : Win) (w : World) (h : WinOwn w S g x) :
    Calls Try.prog 25 #[.pointer (some ⟨g, 0, none⟩)] w fun e w' => e = .returned (.bool (decide (x.state = 2))) ∧ WinOwn w' S g x.shut ∧ Rest S w w' := by
  have H := Lib.hid h
  obtain ⟨rv, h⟩ := h
  obtain ⟨c0, c1, c2, c3, c4, c5, c6, c7, c8, cz⟩ := h.blk.c9
  have HA := Lib.hid h
  clear h
  unfold Win.shut
  obtain ⟨xm, xa, xi, xt, xr, xc, xl, xn, xs⟩ := x
  dsimp only at c8
  by_cases h0 : xs = 2
  · subst h0
    go_enter Try.func25, Try.ntmps25
    go_wp2
    go_ret
    exact ⟨rfl, ⟨rv, HA.out.blk.put (j := 8) (by simp) _ rfl, HA.out.own.setG (fun r hr => (HA.out.nr r hr).2) 8 _, HA.out.ng, HA.out.nr⟩, (Rest.refl S w).set HA.out.ng 8 _⟩
  · have d0 : (xs == 2) = false := by simpa using h0
    have HE := Lib.hid (show decide (xs = 2) = false from decide_eq_false h0)
    have HN := Lib.hid h0
    clear h0
    go_enter Try.func25, Try.ntmps25
    go_wp2
    go_ret
    exact ⟨by first | rfl | (dsimp only; rw [HE.out]; rfl), by first | exact H.out | (dsimp only; rw [if_neg HN.out]; exact H.out) | (rw [if_neg HN.out]; exact H.out), Rest.refl _ _⟩

theorem winlow_any (g : Nat) (S : Nat → Prop) (x : Win) (mark : Int) (w : World) (h : WinOwn w S g x) :
    Calls Try.prog 26 #[.pointer (some ⟨g, 0, none⟩), .int .i64 mark] w fun e w' => e = .returned (.bool (decide (x.state = 3 ∧ mark = x.mark))) ∧ WinOwn w' S g (x.low mark) ∧ Rest S w w' := by
  have H := Lib.hid h
  obtain ⟨rv, h⟩ := h
  obtain ⟨c0, c1, c2, c3, c4, c5, c6, c7, c8, cz⟩ := h.blk.c9
  have HA := Lib.hid h
  clear h
  unfold Win.low
  obtain ⟨xm, xa, xi, xt, xr, xc, xl, xn, xs⟩ := x
  dsimp only at c8 c0
  by_cases h0 : xs = 3
  · subst h0
    by_cases h1 : mark = xm
    · subst h1
      go_enter Try.func26, Try.ntmps26
      go_wp2
      go_ret
      refine ⟨by first | rfl | (dsimp only; rw [decide_eq_true ⟨rfl, rfl⟩]; rfl), ?_, (Rest.refl S w).set HA.out.ng 8 _⟩
      (try rw [if_pos ⟨rfl, rfl⟩])
      exact ⟨rv, HA.out.blk.put (j := 8) (by simp) _ rfl, HA.out.own.setG (fun r hr => (HA.out.nr r hr).2) 8 _, HA.out.ng, HA.out.nr⟩
    · have d1 : (mark == xm) = false := by simpa using h1
      have HN := Lib.hid h1
      clear h1
      go_enter Try.func26, Try.ntmps26
      go_wp2
      go_ret
      exact ⟨by first | rfl | (dsimp only; rw [decide_eq_false (fun h => HN.out h.2)]; rfl), by first | exact H.out | (dsimp only; rw [if_neg (fun h => HN.out h.2)]; exact H.out) | (rw [if_neg (fun h => HN.out h.2)]; exact H.out), Rest.refl _ _⟩
  · have d0 : (xs == 3) = false := by simpa using h0
    have HN := Lib.hid h0
    clear h0
    go_enter Try.func26, Try.ntmps26
    go_wp2
    go_ret
    exact ⟨by first | rfl | (dsimp only; rw [decide_eq_false (fun h => HN.out h.1)]; rfl), by first | exact H.out | (dsimp only; rw [if_neg (fun h => HN.out h.1)]; exact H.out) | (rw [if_neg (fun h => HN.out h.1)]; exact H.out), Rest.refl _ _⟩
end Go.Proofs.Ytojjeogpggielaa