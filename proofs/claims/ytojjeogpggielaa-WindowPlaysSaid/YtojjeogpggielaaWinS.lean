/- The window's contracts, for the laws: what stands beside the window. -/
import Derived.Test.YtojjeogpggielaaWin8
set_option linter.unusedVariables false
set_option linter.unusedSimpArgs false
namespace Go.Proofs.Ytojjeogpggielaa
open Go.RowKit

/-- The window stands at g; S: blocks that are not its own, all of w0's among them. -/
structure WS (w0 w : World) (S : Nat → Prop) (g : Nat) (x : Win) : Prop where
  own : WinOwn w S g x
  hS : ∀ k, S k → k < w.heap.size
  base : ∀ k, k < w0.heap.size → S k
  bel : Below w0.heap.size w0 w

section
variable {w0 w w2 w' : World} {S : Nat → Prop} {g : Nat} {x x' : Win}

theorem WS.call (h : WS w0 w S g x) (o : WinOwn w' S g x') (r : Rest S w w') : WS w0 w' S g x' :=
  ⟨o, fun k hk => Nat.lt_of_lt_of_le (h.hS k hk) r.size, h.base, h.bel.trans (r.toBelow h.base)⟩
theorem WS.below (h : WS w0 w S g x) (hb : Below w.heap.size w w2) : WS w0 w2 S g x :=
  ⟨h.own.below hb, fun k hk => Nat.lt_of_lt_of_le (h.hS k hk) hb.size, h.base, h.bel.trans (hb.mono h.bel.size)⟩
theorem WS.alloc (h : WS w0 w S g x) (o : Obj) : WS w0 (w.alloc o) S g x := h.below ((Below.refl _ _).alloc (Nat.le_refl _) o)
theorem WS.drew (h : WS w0 w S g x) : WS w0 w.drew S g x := ⟨h.own.drew, h.hS, h.base, below_drewN h.bel 1⟩
theorem WS.step (h : WS w0 w S g x) (hb : Below w.heap.size w w2) : WS w0 w2 (fun k => S k ∨ (w.heap.size ≤ k ∧ k < w2.heap.size)) g x :=
  ⟨h.own.step hb, fun k hk => hk.elim (fun e => Nat.lt_of_lt_of_le (h.hS k e) hb.size) (fun e => e.2), fun k hk => .inl (h.base k hk), h.bel.trans (hb.mono h.bel.size)⟩
theorem WS.less {S' : Nat → Prop} (h : WS w0 w S g x) (hS : ∀ k, S' k → S k) (hb : ∀ k, k < w0.heap.size → S' k) : WS w0 w S' g x :=
  ⟨h.own.less hS, fun k hk => h.hS k (hS k hk), hb, h.bel⟩
theorem WS.rest (h : WS w0 w S g x) (hb : Below w.heap.size w w2) : Rest S w w2 := (Rest.refl S w).below h.hS hb
/-- A list that lies beside the window. -/
theorem IsSl.call {α : Type} {R : Rep α} {A : Option Addr} {n : Nat} {l : List α} (h : IsSl R w S A n l) (r : Rest S w w') : IsSl R w' S A n l := h.rest r (fun _ h => h)

theorem ws_open (h : WS w0 w S g x) (mark id table after : Int) :
    Calls Try.prog 21 #[.pointer (some ⟨g, 0, none⟩), .int .i64 mark, .int .i64 id, .int .i64 table, .int .i64 after] w fun e w' => e = .returned (.bool (x.openOk mark id table after)) ∧ WS w0 w' S g (x.opened mark id table after) ∧ Rest S w w' := by
  refine (winopen_any g S x mark id table after w h.hS h.own).mono ?_
  rintro e w' ⟨rfl, o, r⟩
  exact ⟨rfl, h.call o r, r⟩

theorem ws_fill (h : WS w0 w S g x) (A : Option Addr) (n c : Nat) (l : List Row) (hl : IsSl rowRep w S A n l) (hn : x.n ≤ 64) (hm : n ≤ maxLen) :
    Calls Try.prog 24 #[.pointer (some ⟨g, 0, none⟩), .slice A n c] w fun e w' => e = .returned (.bool (x.fillOk l)) ∧ WS w0 w' S g (x.filled l) ∧ Rest S w w' := by
  refine (winfill_any g S x A n c l w h.hS h.own S (fun _ h => h) hl hn hm).mono ?_
  rintro e w' ⟨rfl, o, r⟩
  exact ⟨rfl, h.call o r, r⟩

theorem ws_fill_new (h : WS w0 w S g x) (hb : Below w.heap.size w w2) (A : Option Addr) (n c : Nat) (l : List Row) (hl : IsSl rowRep w2 (fun k => w.heap.size ≤ k ∧ k < w2.heap.size) A n l) (hn : x.n ≤ 64) (hm : n ≤ maxLen) :
    Calls Try.prog 24 #[.pointer (some ⟨g, 0, none⟩), .slice A n c] w2 fun e w' => e = .returned (.bool (x.fillOk l)) ∧ WS w0 w' S g (x.filled l) ∧ Rest S w w' := by
  refine (ws_fill (h.step hb) A n c l (hl.weak fun _ h => .inr h) hn hm).mono ?_
  rintro e w' ⟨rfl, o, r⟩
  exact ⟨rfl, o.less (fun _ hk => .inl hk) h.base, (h.rest hb).trans (r.less fun _ hk => .inl hk)⟩

theorem ws_shut (h : WS w0 w S g x) :
    Calls Try.prog 25 #[.pointer (some ⟨g, 0, none⟩)] w fun e w' => e = .returned (.bool (decide (x.state = 2))) ∧ WS w0 w' S g x.shut ∧ Rest S w w' := by
  refine (winshut_any g S x w h.own).mono ?_
  rintro e w' ⟨rfl, o, r⟩
  exact ⟨rfl, h.call o r, r⟩

theorem ws_low (h : WS w0 w S g x) (mark : Int) :
    Calls Try.prog 26 #[.pointer (some ⟨g, 0, none⟩), .int .i64 mark] w fun e w' => e = .returned (.bool (decide (x.state = 3 ∧ mark = x.mark))) ∧ WS w0 w' S g (x.low mark) ∧ Rest S w w' := by
  refine (winlow_any g S x mark w h.own).mono ?_
  rintro e w' ⟨rfl, o, r⟩
  exact ⟨rfl, h.call o r, r⟩

theorem ws_see (h : WS w0 w S g x) (A : Option Addr) (n c : Nat) (l : List Chg) (hl : IsSl chgRep w S A n l) (hn : x.rows.length ≤ 100000) (hm : n ≤ 1000000) :
    Calls Try.prog 27 #[.pointer (some ⟨g, 0, none⟩), .slice A n c] w fun e w' => e = .returned (.int .i64 (x.saw l)) ∧ WS w0 w' S g (x.see l) ∧ Rest S w w' := by
  refine (winsee_any g S x A n c l w h.hS h.own S (fun _ h => h) hl hn hm).mono ?_
  rintro e w' ⟨rfl, o, r⟩
  exact ⟨rfl, h.call o r, r⟩

theorem ws_see_new (h : WS w0 w S g x) (hb : Below w.heap.size w w2) (A : Option Addr) (n c : Nat) (l : List Chg) (hl : IsSl chgRep w2 (fun k => w.heap.size ≤ k ∧ k < w2.heap.size) A n l) (hn : x.rows.length ≤ 100000) (hm : n ≤ 1000000) :
    Calls Try.prog 27 #[.pointer (some ⟨g, 0, none⟩), .slice A n c] w2 fun e w' => e = .returned (.int .i64 (x.saw l)) ∧ WS w0 w' S g (x.see l) ∧ Rest S w w' := by
  refine (ws_see (h.step hb) A n c l (hl.weak fun _ h => .inr h) hn hm).mono ?_
  rintro e w' ⟨rfl, o, r⟩
  exact ⟨rfl, o.less (fun _ hk => .inl hk) h.base, (h.rest hb).trans (r.less fun _ hk => .inl hk)⟩

theorem ws_waits (h : WS w0 w S g x) (lsn kind mark : Int) :
    Calls Try.prog 34 #[.pointer (some ⟨g, 0, none⟩), .agg #[.int .i64 lsn, .int .i64 kind, .slice none 0 0, .slice none 0 0, .int .i64 mark]] w fun e w' => e = .returned (.bool (x.waits kind mark)) ∧ WS w0 w' S g x ∧ Rest S w w' := by
  refine (winwaits_any g S x lsn kind mark w h.own).mono ?_
  rintro e w' ⟨rfl, b⟩
  exact ⟨rfl, h.below b, h.rest b⟩

theorem ws_state (h : WS w0 w S g x) :
    Calls Try.prog 31 #[.pointer (some ⟨g, 0, none⟩)] w fun e w' => e = .returned (.int .i64 x.state) ∧ w = w' := winState_any g S x w h.own

theorem ws_rows (h : WS w0 w S g x) (hn : x.rows.length ≤ 100000) :
    Calls Try.prog 32 #[.pointer (some ⟨g, 0, none⟩)] w fun e w' => ∃ A c, e = .returned (.slice A x.rows.length c) ∧ WS w0 w' S g x ∧ Rest S w w' ∧ IsSl rowRep w' (fun k => w.heap.size ≤ k ∧ k < w'.heap.size) A x.rows.length x.rows := by
  refine (winRows_any g S x w h.own hn).mono ?_
  rintro e w' ⟨v, rfl, o, b⟩
  obtain ⟨A, c, rfl, _, _, sl⟩ := o.isSl (S' := fun k => w.heap.size ≤ k ∧ k < w'.heap.size) (fun _ h => h.elim) (fun k h1 h2 => ⟨h1, h2⟩)
  exact ⟨A, c, rfl, h.below b, h.rest b, sl⟩

theorem ws_high (h : WS w0 w S g x) (mark lsn : Int) (hn : x.rows.length ≤ 100000) (hi : I64 x.id) (ht : I64 x.table) (hc : I64 x.cursor) :
    Calls Try.prog 28 #[.pointer (some ⟨g, 0, none⟩), .int .i64 mark, .int .i64 lsn] w fun e w' => ∃ A n c A2 n2 c2, e = .returned (.tuple #[.agg #[.int .i64 (x.tell mark lsn).lsn, .slice A n c, .slice A2 n2 c2], .bool (x.highOk mark lsn)]) ∧ IsSl oprRep w' (fun k => w.heap.size ≤ k ∧ k < w'.heap.size) A n (x.tell mark lsn).ops ∧ IsSl noteRep w' (fun k => w.heap.size ≤ k ∧ k < w'.heap.size) A2 n2 (x.tell mark lsn).notes ∧ WS w0 w' S g (x.told mark lsn) ∧ Rest S w w' := by
  refine (winhigh_any g S x mark lsn w h.hS h.own hn hi ht hc).mono ?_
  rintro e w' ⟨A, n, c, A2, n2, c2, rfl, s1, s2, o, r⟩
  exact ⟨A, n, c, A2, n2, c2, rfl, s1, s2, h.call o r, r⟩

theorem ws_new (n : Int) (w : World) (h1 : 1 ≤ n) (h2 : n ≤ 64) :
    Calls Try.prog 16 #[.int .i64 n] w fun e w' => e = .returned (.tuple #[.pointer (some ⟨w.heap.size, 0, none⟩), .int .i64 0]) ∧ WS w w' (· < w.heap.size) w.heap.size (win0 n) := by
  refine (winnew_ok n w h1 h2 (· < w.heap.size) (fun _ h => h)).mono ?_
  rintro e w' ⟨rfl, o, b⟩
  exact ⟨rfl, o, fun k hk => Nat.lt_of_lt_of_le hk b.size, fun _ h => h, b⟩
end
end Go.Proofs.Ytojjeogpggielaa
