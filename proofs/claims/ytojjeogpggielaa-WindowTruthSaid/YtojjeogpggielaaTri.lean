/- A window and the reference's Set beside each other: NewSet; each call of both. -/
import Derived.Test.YtojjeogpggielaaTruthP
import Derived.Test.YtojjeogpggielaaWinB
set_option linter.unusedVariables false
set_option linter.unusedSimpArgs false
namespace Go.Proofs.Ytojjeogpggielaa
open Go.RowKit

set_option maxHeartbeats 2000000 in
set_option maxRecDepth 100000 in
theorem refnewset1_any (w : World) :
    Calls Try.prog 17 #[.int .i64 1] w fun e w' => ∃ gs bt, e = .returned (.pointer (some ⟨gs, 0, none⟩)) ∧ SetAt w' (fun _ => False) gs bt [[]] ∧ w.heap.size ≤ gs ∧ w.heap.size ≤ bt ∧ Below w.heap.size w w' := by
  have hmk : ∀ W : World, (Instr.makeSlice 107 (.int .i64 1) (.int .i64 1)).run Try.prog W = .ok (.slice (some ⟨W.heap.size, 0, none⟩) 1 1) (W.alloc (.cells #[.slice none 0 0] 34)) := fun W => by kernel_rfl
  go_enter Try.func17, Try.ntmps17
  go_wp2
  go_ret
  refine ⟨w.heap.size + 1, w.heap.size, rfl, ⟨Blk.new rfl (by simp), ⟨[.slice none 0 0], (Blk.new rfl rfl).alloc _, rfl, fun t l hl => ?_⟩, fun _ h => h.elim, id, id, by omega⟩, by omega, Nat.le_refl _, ((Below.refl _ _).alloc (Nat.le_refl _) _).alloc (by simp) _⟩
  match t, hl with
  | 0, hl =>
    obtain rfl : [] = l := by simpa using hl
    exact ⟨none, 0, 0, rfl, IsSl.nil, Nat.le_refl _, Nat.zero_le _⟩

/-- A window at g; a set at gs with one table L. -/
structure Tri (w0 w : World) (S : Nat → Prop) (g gs bt : Nat) (x : Win) (L : List Row) : Prop where
  win : WS w0 w S g x
  set : ∃ U, SetAt w U gs bt [L] ∧ ∀ k, U k → S k
  inS : S gs ∧ S bt
  base : w0.heap.size ≤ bt

/-- A list that lies beside both. -/
structure Bes {α : Type} (R : Rep α) (w : World) (S : Nat → Prop) (bt : Nat) (A : Option Addr) (n : Nat) (l : List α) : Prop where
  lies : ∃ V : Nat → Prop, IsSl R w V A n l ∧ (∀ k, V k → S k) ∧ ¬ V bt

section
variable {w0 w w' : World} {S S' : Nat → Prop} {g gs bt : Nat} {x x' : Win} {L L' : List Row} {α : Type} {R : Rep α} {A : Option Addr} {n : Nat} {l : List α}
theorem Tri.winStep (h : Tri w0 w S g gs bt x L) (o : WS w0 w' S g x') (r : Rest S w w') : Tri w0 w' S g gs bt x' L := by
  obtain ⟨U, hs, hU⟩ := h.set
  exact ⟨o, ⟨U, hs.rest r hU h.inS.1 h.inS.2, hU⟩, h.inS, h.base⟩
theorem Tri.below (h : Tri w0 w S g gs bt x L) (hb : Below w.heap.size w w') : Tri w0 w' (fun k => S k ∨ (w.heap.size ≤ k ∧ k < w'.heap.size)) g gs bt x L := by
  obtain ⟨U, hs, hU⟩ := h.set
  exact ⟨h.win.step hb, ⟨U, hs.below hb, fun k hk => .inl (hU k hk)⟩, ⟨.inl h.inS.1, .inl h.inS.2⟩, h.base⟩
theorem WinAt.gbyT {b : Nat} {rv : Value} (h : WinAt w S g x rv) (gr : w.grownBy w' (some b)) (hg : S b) : WinAt w' S g x rv :=
  h.grown gr (fun k hk => by injection hk with hk; subst hk; exact ⟨fun e => h.ng (by rw [← e]; exact hg), fun e => (h.nr _ e).1 hg⟩)
theorem Tri.setStep {U : Nat → Prop} (h : Tri w0 w S g gs bt x L) (hs : SetAt w' (fun k => U k ∨ (w.heap.size ≤ k ∧ k < w'.heap.size)) gs bt [L']) (hU : ∀ k, U k → S k) (gr : w.grownBy w' (some bt)) : Tri w0 w' (fun k => S k ∨ (w.heap.size ≤ k ∧ k < w'.heap.size)) g gs bt x L' := by
  have hg := h.win.own.lt
  refine ⟨⟨?_, fun k hk => hk.elim (fun e => Nat.lt_of_lt_of_le (h.win.hS k e) gr.size) (·.2), fun k hk => .inl (h.win.base k hk), ?_⟩, ⟨_, hs, fun k hk => hk.imp (hU k) id⟩, ⟨.inl h.inS.1, .inl h.inS.2⟩, h.base⟩
  · obtain ⟨rv, hw⟩ := h.win.own.sets (S' := fun k => S k ∨ (w.heap.size ≤ k ∧ k < w'.heap.size)) (fun e => e.elim h.win.own.ng (fun e => Nat.lt_irrefl _ (Nat.lt_of_lt_of_le hg e.1))) (fun k hk => hk.imp id (·.1))
    exact ⟨rv, hw.gbyT gr (.inl h.inS.2)⟩
  · exact ⟨gr.os.trans h.win.bel.os, gr.tape.trans h.win.bel.tape, gr.output.trans h.win.bel.output, Nat.le_trans h.win.bel.size gr.size, fun k hk => (gr.block k (h.win.hS k (h.win.base k hk)) (fun e => by injection e with e; have := h.base; omega)).trans (h.win.bel.block k hk)⟩

theorem Bes.sl (h : Bes R w S bt A n l) : IsSl R w S A n l := by
  obtain ⟨V, s, hV, _⟩ := h.lies
  exact s.weak hV
theorem Bes.winStep (h : Bes R w S bt A n l) (r : Rest S w w') : Bes R w' S bt A n l := by
  obtain ⟨V, s, hV, hg⟩ := h.lies
  exact ⟨V, s.rest r hV, hV, hg⟩
theorem Bes.setStep (h : Bes R w S bt A n l) (hS : ∀ k, S k → k < w.heap.size) (gr : w.grownBy w' (some bt)) (hs : ∀ k, S k → S' k) : Bes R w' S' bt A n l := by
  obtain ⟨V, s, hV, hg⟩ := h.lies
  exact ⟨V, s.keep (fun p hp => World.cell?_of_block (gr.block _ (hS _ (hV _ hp)) (fun e => hg (by injection e with e; rw [← e]; exact hp)))), fun k hk => hs k (hV k hk), hg⟩
theorem Bes.below (h : Bes R w S bt A n l) (hS : ∀ k, S k → k < w.heap.size) (hb : Below w.heap.size w w') (hs : ∀ k, S k → S' k) : Bes R w' S' bt A n l := by
  obtain ⟨V, s, hV, hg⟩ := h.lies
  exact ⟨V, s.keep (fun p hp => hb.cell (hS _ (hV _ hp))), fun k hk => hs k (hV k hk), hg⟩
theorem Bes.ofOwn {e : TypeId} {c : Nat} (own : Own R w' w.heap.size (fun _ => False) e (.slice A n c) l) (hbt : bt < w.heap.size) (hs : ∀ k, w.heap.size ≤ k → k < w'.heap.size → S' k) : Bes R w' S' bt A n l :=
  ⟨fun k => w.heap.size ≤ k ∧ k < w'.heap.size, own.slIn (fun k h1 h2 => ⟨h1, h2⟩), fun k hk => hs k hk.1 hk.2, fun h => by omega⟩

theorem tr_apply (h : Tri w0 w S g gs bt x L) (c : Nat) (l : List Chg) (hl : Bes chgRep w S bt A n l) (h0 : ∀ c ∈ l, c.table = 0) (hL : L.length + n ≤ 100000) :
    Calls Try.prog 20 #[.pointer (some ⟨gs, 0, none⟩), .slice A n c] w fun e w' => e = .returned (.bool true) ∧ ∃ S', Tri w0 w' S' g gs bt x (allL L l) ∧ (∀ k, S k → S' k) ∧ w.grownBy w' (some bt) := by
  obtain ⟨U, hs, hU⟩ := h.set
  obtain ⟨V, sl, hV, hb⟩ := hl.lies
  have hin : ∀ c ∈ l, inSet [L] c.table = true := fun c hc => by
    rw [h0 c hc]
    exact decide_eq_true ⟨Int.le_refl _, by simp⟩
  have hsz : ∀ y ∈ [L], y.length + n ≤ 100000 := by
    intro y hy
    rw [List.mem_singleton.1 hy]
    exact hL
  refine (refapply_any gs bt U [L] A n c l w hs V (fun k hk => h.win.hS k (hV k hk)) hb sl hin hsz (by simp) (by omega)).mono ?_
  rintro e w' ⟨rfl, s, gr⟩
  rw [setAll_one l L h0] at s
  exact ⟨rfl, _, h.setStep s hU gr, fun k hk => .inl hk, gr⟩
theorem tr_rows (h : Tri w0 w S g gs bt x L) (hL : L.length ≤ 100000) :
    Calls Try.prog 23 #[.pointer (some ⟨gs, 0, none⟩), .int .i64 0] w fun e w' => ∃ v, e = .returned v ∧ Own rowRep w' w.heap.size (fun _ => False) 55 v L ∧ Below w.heap.size w w' := by
  obtain ⟨U, hs, hU⟩ := h.set
  have hsz : ∀ y ∈ [L], y.length ≤ 100000 := by
    intro y hy
    rw [List.mem_singleton.1 hy]
    exact hL
  refine (refsetrows_any gs bt U [L] 0 0 rfl w hs (by simp) (by simp) hsz).mono ?_
  rintro e w' ⟨v, rfl, own, bel⟩
  exact ⟨v, rfl, own, bel⟩
end
end Go.Proofs.Ytojjeogpggielaa
