/- Contracts of piece: the reader of fields, next, Int, Text, Small, Bit, Done, Read. -/
import Derived.Test.YthhpddiicnjmmaaFldA
set_option linter.unusedVariables false
namespace Go.Proofs.Ythhpddiicnjmmaa
open Go.RowKit

def fld0 : Fld := ⟨0, 0, ⟨#[]⟩⟩

/-- The next field of that kind, what is left, and whether something was wrong. -/
def nextP (l : List Fld) (bad : Bool) (k : Int) : Fld × List Fld × Bool :=
  match bad, l with
  | true, l => (fld0, l, true)
  | false, [] => (fld0, [], true)
  | false, f :: r => if f.kind = k then (f, r, false) else (fld0, f :: r, true)

/-- A reader at block g. -/
def PRd (w : World) (B g : Nat) (l : List Fld) (bad : Bool) : Prop :=
  ∃ A n c, w.cell? ⟨g, 0, none⟩ = some (.slice A n c) ∧ w.cell? ⟨g, 1, none⟩ = some (.bool bad) ∧ w.frozen? ⟨g, 0, none⟩ = false ∧ w.frozen? ⟨g, 1, none⟩ = false ∧ IsSl fldRep w (· < B) A n l ∧ n ≤ c ∧ c ≤ maxLen

theorem PRd.lt {w : World} {B g : Nat} {l : List Fld} {bad : Bool} (h : PRd w B g l bad) : g < w.heap.size := by
  obtain ⟨A, n, c, c0, _⟩ := h
  exact World.block_lt_of_cell? w _ c0

theorem PRd.grown {w w' : World} {B g : Nat} {l : List Fld} {bad : Bool} {row : Option Nat} (h : PRd w B g l bad) (hg : B ≤ g) (gr : w.grownBy w' row) (hr : ∀ k, row = some k → B ≤ k ∧ k ≠ g) : PRd w' B g l bad := by
  obtain ⟨A, n, c, c0, c1, z0, z1, hsl, hnc, hcm⟩ := h
  have hgs : g < w.heap.size := World.block_lt_of_cell? w _ c0
  have hb : w'.heap[g]? = w.heap[g]? := gr.block g hgs (fun e => (hr g e.symm).2 rfl)
  refine ⟨A, n, c, (World.cell?_of_block (a := ⟨g, 0, none⟩) hb).trans c0, (World.cell?_of_block (a := ⟨g, 1, none⟩) hb).trans c1, (World.frozen?_of_block (a := ⟨g, 0, none⟩) hb).trans z0, (World.frozen?_of_block (a := ⟨g, 1, none⟩) hb).trans z1, hsl.keep fun p hp => ?_, hnc, hcm⟩
  exact World.cell?_of_block (gr.block p.block (by omega) (fun e => by have := (hr _ e.symm).1; omega))

theorem PRd.below {w w' : World} {B g : Nat} {l : List Fld} {bad : Bool} (h : PRd w B g l bad) (hg : B ≤ g) (hb : Below w.heap.size w w') : PRd w' B g l bad :=
  h.grown hg ⟨hb.os, hb.tape, hb.output, hb.size, fun k hk _ => hb.block k hk⟩ (row := none) (fun _ h => by cases h)

theorem PRd.alloc {w : World} {B g : Nat} {l : List Fld} {bad : Bool} (h : PRd w B g l bad) (hg : B ≤ g) (o : Obj) : PRd (w.alloc o) B g l bad :=
  h.grown hg (World.grownBy_alloc w o none) (fun _ h => by cases h)

theorem PRd.stored {w : World} {B g D : Nat} {l : List Fld} {bad : Bool} (h : PRd w B g l bad) (hg : B ≤ g) (hD : g < D) (j : Nat) (u : Value) : PRd (w.setCell ⟨D, j, none⟩ u) B g l bad :=
  h.grown hg (grownBy_set w ⟨D, j, none⟩ u) (fun k hk => by injection hk with hk; subst hk; exact ⟨by dsimp only; omega, by dsimp only; omega⟩)

theorem PRd.fault {w : World} {B g : Nat} {l : List Fld} {bad : Bool} (h : PRd w B g l bad) (hg : B ≤ g) (b' : Bool) : PRd (w.setCell ⟨g, 1, none⟩ (.bool b')) B g l b' := by
  obtain ⟨A, n, c, c0, c1, z0, z1, hsl, hnc, hcm⟩ := h
  refine ⟨A, n, c, ?_, World.cell?_setCell_same _ _ _ c1, by simpa using z0, by simpa using z1, hsl.keep fun p hp => World.cell?_setCell_other _ _ _ _ (by intro h; rw [← h] at hp; exact Nat.lt_irrefl _ (Nat.lt_of_lt_of_le hp hg)), hnc, hcm⟩
  rw [World.cell?_setCell_other _ _ _ _ (by intro h; injection h with _ h2; cases h2)]
  exact c0

theorem PRd.took {w : World} {B g : Nat} {l l' : List Fld} {bad : Bool} {A : Option Addr} {n c : Nat} (h : PRd w B g l bad) (hg : B ≤ g) (hsl' : IsSl fldRep w (· < B) A n l') (hnc' : n ≤ c) (hcm' : c ≤ maxLen) : PRd (w.setCell ⟨g, 0, none⟩ (.slice A n c)) B g l' bad := by
  obtain ⟨_, _, _, c0, c1, z0, z1, _, _, _⟩ := h
  refine ⟨A, n, c, World.cell?_setCell_same _ _ _ c0, ?_, by simpa using z0, by simpa using z1, hsl'.keep fun p hp => World.cell?_setCell_other _ _ _ _ (by intro h; rw [← h] at hp; exact Nat.lt_irrefl _ (Nat.lt_of_lt_of_le hp hg)), hnc', hcm'⟩
  rw [World.cell?_setCell_other _ _ _ _ (by intro h; injection h with _ h2; cases h2)]
  exact c1

theorem IsSl.behindF {A A' : Option Addr} {w : World} {S : Nat → Prop} {n : Nat} {x : Fld} {l : List Fld} (h : IsSl fldRep w S A n (x :: l)) (hA : A' = A.map (·.add 3) ∨ n = 1) : IsSl fldRep w S A' (n - 1) l := by
  have hn := h.len
  have := h.cut (lo := 1) (hi := n) (A' := A') (by rw [hn]; simp) (Nat.le_refl _) (fun hlt => by
    rcases hA with h | h
    · exact h
    · omega)
  rw [hn] at this
  simpa [hn] using this

theorem grown_alloc {w w' : World} {r : Option Nat} (h : w.grownBy w' r) (o : Obj) : w.grownBy (w'.alloc o) r := grownBy_trans h (World.grownBy_alloc w' o r)

theorem kind_cells {w : World} {B : Nat} {A : Option Addr} {n : Nat} {x : Fld} {r : List Fld} (h : IsSl fldRep w (· < B) A n (x :: r)) : ∃ b off, A = some ⟨b, off, none⟩ ∧ b < B ∧ w.cell? ⟨b, off, none⟩ = some (.int .i64 x.kind) ∧ w.cell? ⟨b, off + 1, none⟩ = some (.int .i64 x.n) ∧ w.cell? ⟨b, off + 2, none⟩ = some (.string x.s) ∧ x.wf := by
  obtain ⟨b, off, a, cs, rfl, hb, ha, ⟨rfl, hw⟩, hc⟩ := h.at_ (k := 0) (by rw [h.len]; simp)
  obtain rfl : x = a := by simpa using ha
  have h0 := hc 0 _ rfl
  have h1 := hc 1 _ rfl
  have h2 := hc 2 _ rfl
  simp only [Nat.zero_mul, Nat.add_zero] at h0 h1 h2
  exact ⟨b, off, rfl, hb, h0, h1, h2, hw⟩

set_option maxHeartbeats 2000000 in
theorem pnext_any (B g : Nat) (l : List Fld) (bad : Bool) (k : Int) (w : World) (h : PRd w B g l bad) (hg : B ≤ g) :
    Calls Try.prog 126 #[.pointer (some ⟨g, 0, none⟩), .int .i64 k] w fun ev w' => ev = .returned (.agg (nextP l bad k).1.cells.toArray) ∧ PRd w' B g (nextP l bad k).2.1 (nextP l bad k).2.2 ∧ w.grownBy w' (some g) := by
  have hgs := h.lt
  have HR := Lib.hid h
  obtain ⟨A, n, c, c0, c1, z0, z1, hsl, hnc, hcm⟩ := h
  have hcm' := hcm
  unfold maxLen at hcm'
  cases bad with
  | true =>
    have HF := Lib.hid (show nextP l true k = (fld0, l, true) from rfl)
    clear hsl
    go_enter Try.func126, Try.ntmps126
    go_wp2
    refine bodyPost_ret (by simp [results, Try.results126, go_sem]; try rfl) rfl ?_
    rw [HF.out]
    exact ⟨rfl, (HR.out.fault hg true).alloc hg _, grown_alloc (grownBy_set _ _ _) _⟩
  | false =>
    match l, hsl, HR with
    | [], hsl, HR =>
      obtain rfl : n = 0 := hsl.len
      have HF := Lib.hid (show nextP [] false k = (fld0, [], true) from rfl)
      clear hsl
      go_enter Try.func126, Try.ntmps126
      go_wp2
      refine bodyPost_ret (by simp [results, Try.results126, go_sem]; try rfl) rfl ?_
      rw [HF.out]
      exact ⟨rfl, (HR.out.fault hg true).alloc hg _, grown_alloc (grownBy_set _ _ _) _⟩
    | x :: r, hsl, HR =>
      have hn : n = r.length + 1 := hsl.len
      have hn0 : 0 < n := by omega
      obtain ⟨b, off, rfl, hb, d0, d1, d2, hwf⟩ := kind_cells hsl
      have HS := Lib.hid hsl
      have hne : b ≠ g := by omega
      have hbs : b < w.heap.size := World.block_lt_of_cell? w _ d0
      have HN := Lib.hid hn
      have hnb : ((n : Int) == 0) = false := by simp; omega
      clear hsl hn
      by_cases hk : x.kind = k
      · have HF := Lib.hid (show nextP (x :: r) false k = (x, r, false) from if_pos hk)
        have hk1 : (x.kind == k) = true := by simpa using hk
        have hk2 : (x.kind != k) = false := by simpa using hk
        clear hk
        go_enter Try.func126, Try.ntmps126
        go_wp2
        all_goals
          refine bodyPost_ret (by simp [results, Try.results126, go_sem]; try rfl) rfl ?_
          rw [HF.out]
          refine ⟨rfl, ((HR.out.took hg (HS.out.behindF ?_) (by omega) (by unfold maxLen; omega)).alloc hg _).alloc hg _, grown_alloc (grown_alloc (grownBy_set _ _ _) _) _⟩
          first
            | (refine .inr ?_; omega)
            | (refine .inl ?_; simp [add_none])
      · have HF := Lib.hid (show nextP (x :: r) false k = (fld0, x :: r, true) from if_neg hk)
        have hk1 : (x.kind == k) = false := by simpa using hk
        have hk2 : (x.kind != k) = true := by simpa using hk
        clear hk
        go_enter Try.func126, Try.ntmps126
        go_wp2
        refine bodyPost_ret (by simp [results, Try.results126, go_sem]; try rfl) rfl ?_
        rw [HF.out]
        exact ⟨rfl, (HR.out.fault hg true).alloc hg _, grown_alloc (grownBy_set _ _ _) _⟩

/-- The next number. -/
def intP (l : List Fld) (bad : Bool) : Int × List Fld × Bool := ((nextP l bad 1).1.n, (nextP l bad 1).2)
/-- The next text. -/
def textP (l : List Fld) (bad : Bool) : ByteArray × List Fld × Bool := ((nextP l bad 2).1.s, (nextP l bad 2).2)
/-- The next number, from 0 to most. -/
def smallP (l : List Fld) (bad : Bool) (most : Int) : Int × List Fld × Bool :=
  if (intP l bad).1 < 0 ∨ most < (intP l bad).1 then (0, (intP l bad).2.1, true) else intP l bad
/-- The next bit. -/
def bitP (l : List Fld) (bad : Bool) : Bool × List Fld × Bool := (decide ((smallP l bad 1).1 = 1), (smallP l bad 1).2)

theorem fld_n (a b : Int) (s : ByteArray) (w : World) : (Instr.field 41 (.agg #[.int .i64 a, .int .i64 b, .string s]) 1).run Try.prog w = .ok (.int .i64 b) w := by kernel_rfl
theorem fld_s (a b : Int) (s : ByteArray) (w : World) : (Instr.field 41 (.agg #[.int .i64 a, .int .i64 b, .string s]) 2).run Try.prog w = .ok (.string s) w := by kernel_rfl

set_option maxRecDepth 100000 in
set_option maxHeartbeats 1000000 in
theorem pint_any (B g : Nat) (l : List Fld) (bad : Bool) (w : World) (h : PRd w B g l bad) (hg : B ≤ g) :
    Calls Try.prog 63 #[.pointer (some ⟨g, 0, none⟩)] w fun ev w' => ev = .returned (.int .i64 (intP l bad).1) ∧ PRd w' B g (intP l bad).2.1 (intP l bad).2.2 ∧ w.grownBy w' (some g) := by
  have H := Lib.hid h
  have hfn := fld_n
  clear h
  go_enter Try.func63, Try.ntmps63
  go_wp2_with (first
    | (go_at_call 126; (with_reducible refine (pnext_any B g l bad 1 _ H.out hg).mono ?_); rintro ev w2 ⟨rfl, rd2, gr2⟩; rw [show (nextP l bad 1).1.cells.toArray = #[.int .i64 (nextP l bad 1).1.kind, .int .i64 (nextP l bad 1).1.n, .string (nextP l bad 1).1.s] from rfl]; have RD2 := Lib.hid rd2; have GR2 := Lib.hid gr2; clear rd2 gr2)
    | fail)
  go_ret
  exact ⟨rfl, RD2.out, GR2.out⟩

set_option maxRecDepth 100000 in
set_option maxHeartbeats 1000000 in
theorem ptext_any (B g : Nat) (l : List Fld) (bad : Bool) (w : World) (h : PRd w B g l bad) (hg : B ≤ g) :
    Calls Try.prog 128 #[.pointer (some ⟨g, 0, none⟩)] w fun ev w' => ev = .returned (.string (textP l bad).1) ∧ PRd w' B g (textP l bad).2.1 (textP l bad).2.2 ∧ w.grownBy w' (some g) := by
  have H := Lib.hid h
  have hfn := fld_s
  clear h
  go_enter Try.func128, Try.ntmps128
  go_wp2_with (first
    | (go_at_call 126; (with_reducible refine (pnext_any B g l bad 2 _ H.out hg).mono ?_); rintro ev w2 ⟨rfl, rd2, gr2⟩; rw [show (nextP l bad 2).1.cells.toArray = #[.int .i64 (nextP l bad 2).1.kind, .int .i64 (nextP l bad 2).1.n, .string (nextP l bad 2).1.s] from rfl]; have RD2 := Lib.hid rd2; have GR2 := Lib.hid gr2; clear rd2 gr2)
    | fail)
  go_ret
  exact ⟨rfl, RD2.out, GR2.out⟩

set_option maxRecDepth 100000 in
set_option maxHeartbeats 1000000 in
theorem psmall_any (B g : Nat) (l : List Fld) (bad : Bool) (most : Int) (w : World) (h : PRd w B g l bad) (hg : B ≤ g) :
    Calls Try.prog 64 #[.pointer (some ⟨g, 0, none⟩), .int .i64 most] w fun ev w' => ev = .returned (.int .i64 (smallP l bad most).1) ∧ PRd w' B g (smallP l bad most).2.1 (smallP l bad most).2.2 ∧ w.grownBy w' (some g) := by
  have H := Lib.hid h
  obtain ⟨x, hx⟩ : ∃ x, x = (intP l bad).1 := ⟨_, rfl⟩
  have HX := Lib.hid hx
  have hc : x < 0 ∨ (¬ x < 0 ∧ most < x) ∨ (¬ x < 0 ∧ ¬ most < x) := by omega
  clear h hx
  rcases hc with hc | ⟨hc, hd⟩ | ⟨hc, hd⟩
  · have HF := Lib.hid (show smallP l bad most = (0, (intP l bad).2.1, true) by unfold smallP; rw [← HX.out, if_pos (.inl hc)])
    go_enter Try.func64, Try.ntmps64
    go_wp2_with (first
      | (go_at_call 63; (with_reducible refine (pint_any B g l bad _ H.out hg).mono ?_); rintro ev w2 ⟨rfl, rd2, gr2⟩; rw [← HX.out]; have RD2 := Lib.hid rd2; have GR2 := Lib.hid gr2; obtain ⟨_, _, _, c0, c1, z0, z1, _⟩ := rd2; clear gr2)
      | fail)
    go_ret
    rw [HF.out]
    exact ⟨rfl, RD2.out.fault hg true, grownBy_trans GR2.out (grownBy_set _ _ _)⟩
  · have HF := Lib.hid (show smallP l bad most = (0, (intP l bad).2.1, true) by unfold smallP; rw [← HX.out, if_pos (.inr hd)])
    go_enter Try.func64, Try.ntmps64
    go_wp2_with (first
      | (go_at_call 63; (with_reducible refine (pint_any B g l bad _ H.out hg).mono ?_); rintro ev w2 ⟨rfl, rd2, gr2⟩; rw [← HX.out]; have RD2 := Lib.hid rd2; have GR2 := Lib.hid gr2; obtain ⟨_, _, _, c0, c1, z0, z1, _⟩ := rd2; clear gr2)
      | fail)
    go_ret
    rw [HF.out]
    exact ⟨rfl, RD2.out.fault hg true, grownBy_trans GR2.out (grownBy_set _ _ _)⟩
  · have HF := Lib.hid (show smallP l bad most = intP l bad by unfold smallP; rw [← HX.out, if_neg (by omega)])
    go_enter Try.func64, Try.ntmps64
    go_wp2_with (first
      | (go_at_call 63; (with_reducible refine (pint_any B g l bad _ H.out hg).mono ?_); rintro ev w2 ⟨rfl, rd2, gr2⟩; rw [← HX.out]; have RD2 := Lib.hid rd2; have GR2 := Lib.hid gr2; clear rd2 gr2)
      | fail)
    go_ret
    rw [HF.out, ← HX.out]
    exact ⟨rfl, RD2.out, GR2.out⟩


set_option maxRecDepth 100000 in
set_option maxHeartbeats 1000000 in
theorem pdone_any (B g : Nat) (l : List Fld) (bad : Bool) (w : World) (h : PRd w B g l bad) (hg : B ≤ g) :
    Calls Try.prog 66 #[.pointer (some ⟨g, 0, none⟩)] w fun ev w' => ev = .returned (.bool (!bad && l.isEmpty)) ∧ w = w' := by
  obtain ⟨A, n, c, c0, c1, z0, z1, hsl, hnc, hcm⟩ := h
  cases bad with
  | true =>
    clear hsl
    go_enter Try.func66, Try.ntmps66
    go_wp2
    go_ret
    exact ⟨rfl, rfl⟩
  | false =>
    cases l with
    | nil =>
      obtain rfl : n = 0 := hsl.len
      clear hsl
      go_enter Try.func66, Try.ntmps66
      go_wp2
      go_ret
      exact ⟨rfl, rfl⟩
    | cons x r =>
      have hnb : ((n : Int) == 0) = false := by have := hsl.len; simp at this; simp; omega
      clear hsl
      go_enter Try.func66, Try.ntmps66
      go_wp2
      go_ret
      exact ⟨rfl, rfl⟩

set_option maxRecDepth 100000 in
set_option maxHeartbeats 1000000 in
theorem pread_any (A : Option Addr) (n c : Nat) (l : List Fld) (w : World) (h : IsSl fldRep w (· < w.heap.size) A n l) (hnc : n ≤ c) (hcm : c ≤ maxLen) :
    Calls Try.prog 62 #[.slice A n c] w fun ev w' => ev = .returned (.pointer (some ⟨w.heap.size, 0, none⟩)) ∧ PRd w' w.heap.size w.heap.size l false ∧ Below w.heap.size w w' := by
  have HR : PRd (w.alloc (.cells #[.slice A n c, .bool false] 201)) w.heap.size w.heap.size l false :=
    ⟨A, n, c, World.cell?_alloc_at _ _ _ _ rfl, World.cell?_alloc_at _ _ _ _ rfl, by simp [go_sem], by simp [go_sem], h.below ((Below.refl _ _).alloc (Nat.le_refl _) _), hnc, hcm⟩
  have H := Lib.hid HR
  clear h HR
  go_enter Try.func62, Try.ntmps62
  go_wp2
  go_ret
  exact ⟨rfl, H.out, (Below.refl _ _).alloc (Nat.le_refl _) _⟩
end Go.Proofs.Ythhpddiicnjmmaa
