/- Contracts of the reference reader of fields (qanatref07). Taken out of the texts Txn10 to Txn12. -/
import Derived.Test.YthhpddiicnjmmaaRefP
import Derived.Deep.RegionLaw
import Derived.Deep.QuietTactic
import Derived.BigQuiet
set_option linter.unusedVariables false
set_option linter.unusedSimpArgs false
namespace Go.Proofs.Ythhpddiicnjmmaa
open Go.RowKit

/-- The next number from 0 to most, what is left, and whether something was wrong. -/
def rintP (l : List Fld) (bad : Bool) (most : Int) : Int × List Fld × Bool :=
  match bad, l with
  | true, l => (0, l, true)
  | false, [] => (0, [], true)
  | false, f :: r => if f.kind = 1 ∧ 0 ≤ f.n ∧ f.n ≤ most then (f.n, r, false) else (0, f :: r, true)

def rtextP (l : List Fld) (bad : Bool) : ByteArray × List Fld × Bool :=
  match bad, l with
  | true, l => (⟨#[]⟩, l, true)
  | false, [] => (⟨#[]⟩, [], true)
  | false, f :: r => if f.kind = 2 then (f.s, r, false) else (⟨#[]⟩, f :: r, true)

/-- The reference's reader at block g: the fields that are left. -/
def RRd (w : World) (B g : Nat) (r : List Fld) (bad : Bool) : Prop :=
  ∃ (A : Option Addr) (n c at_ : Nat) (l : List Fld), w.cell? ⟨g, 0, none⟩ = some (.slice A n c) ∧ w.cell? ⟨g, 1, none⟩ = some (.int .i64 at_) ∧ w.cell? ⟨g, 2, none⟩ = some (.bool bad) ∧ (∀ j, w.frozen? ⟨g, j, none⟩ = false) ∧ IsSl fldRep w (· < B) A n l ∧ n ≤ c ∧ c ≤ maxLen ∧ at_ ≤ n ∧ r = l.drop at_

theorem RRd.lt {w : World} {B g : Nat} {r : List Fld} {bad : Bool} (h : RRd w B g r bad) : g < w.heap.size := by
  obtain ⟨A, n, c, at_, l, c0, _⟩ := h
  exact World.block_lt_of_cell? w _ c0

theorem RRd.grown {w w' : World} {B g : Nat} {r : List Fld} {bad : Bool} {row : Option Nat} (h : RRd w B g r bad) (hg : B ≤ g) (gr : w.grownBy w' row) (hr : ∀ k, row = some k → B ≤ k ∧ k ≠ g) : RRd w' B g r bad := by
  obtain ⟨A, n, c, at_, l, c0, c1, c2, z, hsl, hnc, hcm, hat, hl⟩ := h
  have hgs : g < w.heap.size := World.block_lt_of_cell? w _ c0
  have hb : w'.heap[g]? = w.heap[g]? := gr.block g hgs (fun e => (hr g e.symm).2 rfl)
  refine ⟨A, n, c, at_, l, (World.cell?_of_block (a := ⟨g, 0, none⟩) hb).trans c0, (World.cell?_of_block (a := ⟨g, 1, none⟩) hb).trans c1, (World.cell?_of_block (a := ⟨g, 2, none⟩) hb).trans c2, fun j => (World.frozen?_of_block (a := ⟨g, j, none⟩) hb).trans (z j), hsl.keep fun p hp => ?_, hnc, hcm, hat, hl⟩
  exact World.cell?_of_block (gr.block p.block (by omega) (fun e => by have := (hr _ e.symm).1; omega))

theorem RRd.alloc {w : World} {B g : Nat} {r : List Fld} {bad : Bool} (h : RRd w B g r bad) (hg : B ≤ g) (o : Obj) : RRd (w.alloc o) B g r bad :=
  h.grown hg (World.grownBy_alloc w o none) (fun _ h => by cases h)

theorem RRd.stored {w : World} {B g D : Nat} {r : List Fld} {bad : Bool} (h : RRd w B g r bad) (hg : B ≤ g) (hD : g < D) (j : Nat) (u : Value) : RRd (w.setCell ⟨D, j, none⟩ u) B g r bad :=
  h.grown hg (grownBy_set w ⟨D, j, none⟩ u) (fun k hk => by injection hk with hk; subst hk; exact ⟨by dsimp only; omega, by dsimp only; omega⟩)

theorem RRd.drew {w : World} {B g : Nat} {r : List Fld} {bad : Bool} (h : RRd w B g r bad) : RRd w.drew B g r bad := h

theorem RRd.drewN {w : World} {B g : Nat} {r : List Fld} {bad : Bool} (h : RRd w B g r bad) (n : Nat) : RRd (w.drewN n) B g r bad := h

theorem RRd.fault {w : World} {B g : Nat} {r : List Fld} {bad : Bool} (h : RRd w B g r bad) (hg : B ≤ g) (b' : Bool) : RRd (w.setCell ⟨g, 2, none⟩ (.bool b')) B g r b' := by
  obtain ⟨A, n, c, at_, l, c0, c1, c2, z, hsl, hnc, hcm, hat, hl⟩ := h
  refine ⟨A, n, c, at_, l, ?_, ?_, World.cell?_setCell_same _ _ _ c2, fun j => by simpa using z j, hsl.keep fun p hp => World.cell?_setCell_other _ _ _ _ (by intro h; rw [← h] at hp; exact Nat.lt_irrefl _ (Nat.lt_of_lt_of_le hp hg)), hnc, hcm, hat, hl⟩
  · rw [World.cell?_setCell_other _ _ _ _ (by intro h; injection h with _ h2; cases h2)]; exact c0
  · rw [World.cell?_setCell_other _ _ _ _ (by intro h; injection h with _ h2; cases h2)]; exact c1

theorem grownBy_drewN (w : World) (n : Nat) (r : Option Nat) : w.grownBy (w.drewN n) r := ⟨rfl, rfl, rfl, Nat.le_refl _, fun _ _ _ => rfl⟩

/-- One field more is read. -/
theorem RRd.took {w : World} {B g : Nat} {f : Fld} {r : List Fld} {A : Option Addr} {n c at_ : Nat} {l : List Fld} (hg : B ≤ g) (c0 : w.cell? ⟨g, 0, none⟩ = some (.slice A n c)) (c1 : w.cell? ⟨g, 1, none⟩ = some (.int .i64 at_)) (c2 : w.cell? ⟨g, 2, none⟩ = some (.bool false)) (z : ∀ j, w.frozen? ⟨g, j, none⟩ = false) (hsl : IsSl fldRep w (· < B) A n l) (hnc : n ≤ c) (hcm : c ≤ maxLen) (hat : at_ < n) (hl : f :: r = l.drop at_) :
    RRd (w.setCell ⟨g, 1, none⟩ (.int .i64 ((at_ : Int) + 1))) B g r false := by
  refine ⟨A, n, c, at_ + 1, l, ?_, World.cell?_setCell_same _ _ _ c1, ?_, fun j => by simpa using z j, hsl.keep fun p hp => World.cell?_setCell_other _ _ _ _ (by intro h; rw [← h] at hp; exact Nat.lt_irrefl _ (Nat.lt_of_lt_of_le hp hg)), hnc, hcm, hat, ?_⟩
  · rw [World.cell?_setCell_other _ _ _ _ (by intro h; injection h with _ h2; cases h2)]; exact c0
  · rw [World.cell?_setCell_other _ _ _ _ (by intro h; injection h with _ h2; cases h2)]; exact c2
  · have := congrArg (List.drop 1) hl
    rw [List.drop_drop] at this
    simpa using this

/-- The next field's cells. -/
theorem at_cells {w : World} {B n at_ : Nat} {A : Option Addr} {f : Fld} {r l : List Fld} (h : IsSl fldRep w (· < B) A n l) (hat : at_ ≤ n) (hl : f :: r = l.drop at_) : at_ < n ∧ ∃ b off, A = some ⟨b, off, none⟩ ∧ b < B ∧ w.cell? ⟨b, off + at_ * 3, none⟩ = some (.int .i64 f.kind) ∧ w.cell? ⟨b, off + at_ * 3 + 1, none⟩ = some (.int .i64 f.n) ∧ w.cell? ⟨b, off + at_ * 3 + 2, none⟩ = some (.string f.s) := by
  have hn := h.len
  have hlt : at_ < n := by
    have := congrArg List.length hl
    rw [List.length_drop, List.length_cons] at this
    omega
  obtain ⟨b, off, x, cs, rfl, hb, hx, ⟨rfl, _⟩, hc⟩ := h.at_ hlt
  have hxf : x = f := by
    have h1 : (l.drop at_)[0]? = some x := by rw [List.getElem?_drop]; simpa using hx
    rw [← hl] at h1
    simpa using h1.symm
  subst hxf
  exact ⟨hlt, b, off, rfl, hb, hc 0 _ rfl, hc 1 _ rfl, hc 2 _ rfl⟩

/-- What Int answers. -/
def RintPost (B g : Nat) (r : List Fld) (bad : Bool) (most : Int) (w : World) : Prop :=
  Calls Try.prog 70 #[.pointer (some ⟨g, 0, none⟩), .int .i64 most] w fun ev w' => ev = .returned (.int .i64 (rintP r bad most).1) ∧ RRd w' B g (rintP r bad most).2.1 (rintP r bad most).2.2 ∧ w.grownBy w' (some g)

set_option maxRecDepth 100000 in
set_option maxHeartbeats 8000000 in
theorem rint_bad (B g : Nat) (f : Fld) (r : List Fld) (most : Int) (w : World) (h : RRd w B g r true) (hg : B ≤ g) :
    RintPost B g r true most w := by
  unfold RintPost
  have HR := Lib.hid h
  obtain ⟨A, n, c, at_, l, c0, c1, c2, z, hsl, hnc, hcm, hat, hl⟩ := h
  have hcm' := hcm
  unfold maxLen at hcm'
  have HF := Lib.hid (show rintP r true most = (0, r, true) from rfl)
  clear hsl hl
  go_enter Try.func70, Try.ntmps70
  go_wp2
  go_quiet (fail)
  go_wp2
  go_ret
  rw [HF.out]
  exact ⟨rfl, (HR.out.fault hg true), by first | exact grownBy_set _ _ _ | exact grownBy_trans (grownBy_drewN _ _ _) (grownBy_set _ _ _) | exact grownBy_trans (grownBy_set _ _ _) (grownBy_drewN _ _ _)⟩

set_option maxRecDepth 100000 in
set_option maxHeartbeats 8000000 in
theorem rint_none (B g : Nat) (f : Fld) (r : List Fld) (most : Int) (w : World) (h : RRd w B g [] false) (hg : B ≤ g) :
    RintPost B g [] false most w := by
  unfold RintPost
  have HR := Lib.hid h
  obtain ⟨A, n, c, at_, l, c0, c1, c2, z, hsl, hnc, hcm, hat, hl⟩ := h
  have hcm' := hcm
  unfold maxLen at hcm'
  obtain rfl : at_ = n := by have := congrArg List.length hl; rw [List.length_drop, ← hsl.len] at this; simp at this; omega
  have HF := Lib.hid (show rintP [] false most = (0, [], true) from rfl)
  clear hsl hl hat
  have hd1 : decide ((at_ : Int) ≤ (at_ : Int)) = true := decide_eq_true (Int.le_refl _)
  have hd1n : decide (at_ ≤ at_) = true := decide_eq_true (Nat.le_refl _)
  go_enter Try.func70, Try.ntmps70
  go_wp2
  go_quiet (fail)
  go_wp2
  go_ret
  rw [HF.out]
  exact ⟨rfl, (HR.out.fault hg true), by first | exact grownBy_set _ _ _ | exact grownBy_trans (grownBy_drewN _ _ _) (grownBy_set _ _ _) | exact grownBy_trans (grownBy_set _ _ _) (grownBy_drewN _ _ _)⟩

set_option maxRecDepth 100000 in
set_option maxHeartbeats 8000000 in
theorem rint_kind (B g : Nat) (f : Fld) (r : List Fld) (most : Int) (w : World) (h : RRd w B g (f :: r) false) (hg : B ≤ g) (hk : ¬ f.kind = 1) :
    RintPost B g (f :: r) false most w := by
  unfold RintPost
  have HR := Lib.hid h
  obtain ⟨A, n, c, at_, l, c0, c1, c2, z, hsl, hnc, hcm, hat, hl⟩ := h
  have hcm' := hcm
  unfold maxLen at hcm'
  obtain ⟨hlt, b, off, rfl, hb, d0, d1, d2⟩ := at_cells hsl hat hl
  have hbs : b < w.heap.size := World.block_lt_of_cell? w _ d0
  have hd1 : decide ((n : Int) ≤ (at_ : Int)) = false := decide_eq_false (by omega)
  have hd1n : decide (n ≤ at_) = false := decide_eq_false (by omega)
  have hlti : (at_ : Int) < (n : Int) := by omega
  have HS := Lib.hid hsl
  have HL := Lib.hid hl
  clear hsl hl
  have HF := Lib.hid (show rintP (f :: r) false most = (0, f :: r, true) from if_neg (fun h => hk h.1))
  have hk1 : (f.kind == 1) = false := by simpa using hk
  have hk2 : (f.kind != 1) = true := by simpa using hk
  clear hk
  go_enter Try.func70, Try.ntmps70
  go_wp2
  go_quiet (fail)
  go_wp2
  go_ret
  rw [HF.out]
  exact ⟨rfl, (HR.out.fault hg true), by first | exact grownBy_set _ _ _ | exact grownBy_trans (grownBy_drewN _ _ _) (grownBy_set _ _ _) | exact grownBy_trans (grownBy_set _ _ _) (grownBy_drewN _ _ _)⟩

set_option maxRecDepth 100000 in
set_option maxHeartbeats 8000000 in
theorem rint_lo (B g : Nat) (f : Fld) (r : List Fld) (most : Int) (w : World) (h : RRd w B g (f :: r) false) (hg : B ≤ g) (hk : f.kind = 1) (hc : f.n < 0) :
    RintPost B g (f :: r) false most w := by
  unfold RintPost
  have HR := Lib.hid h
  obtain ⟨A, n, c, at_, l, c0, c1, c2, z, hsl, hnc, hcm, hat, hl⟩ := h
  have hcm' := hcm
  unfold maxLen at hcm'
  obtain ⟨hlt, b, off, rfl, hb, d0, d1, d2⟩ := at_cells hsl hat hl
  have hbs : b < w.heap.size := World.block_lt_of_cell? w _ d0
  have hd1 : decide ((n : Int) ≤ (at_ : Int)) = false := decide_eq_false (by omega)
  have hd1n : decide (n ≤ at_) = false := decide_eq_false (by omega)
  have hlti : (at_ : Int) < (n : Int) := by omega
  have HS := Lib.hid hsl
  have HL := Lib.hid hl
  clear hsl hl
  have hk1 : (f.kind == 1) = true := by simpa using hk
  have hk2 : (f.kind != 1) = false := by simpa using hk
  have HF := Lib.hid (show rintP (f :: r) false most = (0, f :: r, true) from if_neg (by omega))
  have he1 : decide (f.n < 0) = true := decide_eq_true hc
  clear hk
  go_enter Try.func70, Try.ntmps70
  go_wp2
  go_quiet (fail)
  go_wp2
  go_ret
  rw [HF.out]
  exact ⟨rfl, (HR.out.fault hg true), by first | exact grownBy_set _ _ _ | exact grownBy_trans (grownBy_drewN _ _ _) (grownBy_set _ _ _) | exact grownBy_trans (grownBy_set _ _ _) (grownBy_drewN _ _ _)⟩

set_option maxRecDepth 100000 in
set_option maxHeartbeats 8000000 in
theorem rint_hi (B g : Nat) (f : Fld) (r : List Fld) (most : Int) (w : World) (h : RRd w B g (f :: r) false) (hg : B ≤ g) (hk : f.kind = 1) (hc : 0 ≤ f.n) (hm : most < f.n) :
    RintPost B g (f :: r) false most w := by
  unfold RintPost
  have HR := Lib.hid h
  obtain ⟨A, n, c, at_, l, c0, c1, c2, z, hsl, hnc, hcm, hat, hl⟩ := h
  have hcm' := hcm
  unfold maxLen at hcm'
  obtain ⟨hlt, b, off, rfl, hb, d0, d1, d2⟩ := at_cells hsl hat hl
  have hbs : b < w.heap.size := World.block_lt_of_cell? w _ d0
  have hd1 : decide ((n : Int) ≤ (at_ : Int)) = false := decide_eq_false (by omega)
  have hd1n : decide (n ≤ at_) = false := decide_eq_false (by omega)
  have hlti : (at_ : Int) < (n : Int) := by omega
  have HS := Lib.hid hsl
  have HL := Lib.hid hl
  clear hsl hl
  have hk1 : (f.kind == 1) = true := by simpa using hk
  have hk2 : (f.kind != 1) = false := by simpa using hk
  have HF := Lib.hid (show rintP (f :: r) false most = (0, f :: r, true) from if_neg (by omega))
  have he1 : decide (f.n < 0) = false := decide_eq_false (by omega)
  have he2 : decide (most < f.n) = true := decide_eq_true hm
  clear hk
  go_enter Try.func70, Try.ntmps70
  go_wp2
  go_quiet (fail)
  go_wp2
  go_ret
  rw [HF.out]
  exact ⟨rfl, (HR.out.fault hg true), by first | exact grownBy_set _ _ _ | exact grownBy_trans (grownBy_drewN _ _ _) (grownBy_set _ _ _) | exact grownBy_trans (grownBy_set _ _ _) (grownBy_drewN _ _ _)⟩

set_option maxRecDepth 100000 in
set_option maxHeartbeats 8000000 in
theorem rint_ok (B g : Nat) (f : Fld) (r : List Fld) (most : Int) (w : World) (h : RRd w B g (f :: r) false) (hg : B ≤ g) (hk : f.kind = 1) (hc : 0 ≤ f.n) (hm : f.n ≤ most) :
    RintPost B g (f :: r) false most w := by
  unfold RintPost
  have HR := Lib.hid h
  obtain ⟨A, n, c, at_, l, c0, c1, c2, z, hsl, hnc, hcm, hat, hl⟩ := h
  have hcm' := hcm
  unfold maxLen at hcm'
  obtain ⟨hlt, b, off, rfl, hb, d0, d1, d2⟩ := at_cells hsl hat hl
  have hbs : b < w.heap.size := World.block_lt_of_cell? w _ d0
  have hd1 : decide ((n : Int) ≤ (at_ : Int)) = false := decide_eq_false (by omega)
  have hd1n : decide (n ≤ at_) = false := decide_eq_false (by omega)
  have hlti : (at_ : Int) < (n : Int) := by omega
  have HS := Lib.hid hsl
  have HL := Lib.hid hl
  clear hsl hl
  have hk1 : (f.kind == 1) = true := by simpa using hk
  have hk2 : (f.kind != 1) = false := by simpa using hk
  have HF := Lib.hid (show rintP (f :: r) false most = (f.n, r, false) from if_pos ⟨hk, hc, hm⟩)
  have he1 : decide (f.n < 0) = false := decide_eq_false (by omega)
  have he2 : decide (most < f.n) = false := decide_eq_false (by omega)
  clear hk
  go_enter Try.func70, Try.ntmps70
  go_wp2
  go_quiet (fail)
  go_wp2
  have hne : b ≠ g := by omega
  have hs1 : IntKind.i64.wrap ((at_ : Int) + 1 - 1) = (at_ : Int) := by rw [show (at_ : Int) + 1 - 1 = (at_ : Int) by omega]; exact IntWalk.i64_in _ (by omega)
  have hs2 : IntKind.i64.wrap (at_ : Int) = (at_ : Int) := IntWalk.i64_in _ (by omega)
  have hs3 : (0 : Int) ≤ (at_ : Int) := by omega
  have hs4 : ((at_ : Int)).toNat = at_ := by omega
  have RD := Lib.hid (RRd.took (f := f) (r := r) hg c0 c1 c2 z HS.out hnc hcm hlt HL.out)
  obtain ⟨W, hW⟩ : ∃ W, W = (w.drewN nq).setCell ⟨g, 1, none⟩ (.int .i64 ((at_ : Int) + 1)) := ⟨_, rfl⟩
  have e0 : W.cell? ⟨g, 0, none⟩ = some (.slice (some ⟨b, off, none⟩) n c) := by rw [hW, World.cell?_setCell_other _ _ _ _ (by intro h; injection h with _ h2; cases h2)]; exact c0
  have e1 : W.cell? ⟨g, 1, none⟩ = some (.int .i64 ((at_ : Int) + 1)) := by rw [hW]; exact World.cell?_setCell_same _ _ _ c1
  have e2 : W.cell? ⟨b, off + at_ * 3 + 1, none⟩ = some (.int .i64 f.n) := by rw [hW, World.cell?_setCell_other _ _ _ _ (by intro h; injection h with h2; exact hne h2.symm)]; exact d1
  have RW := Lib.hid (show RRd W B g r false by rw [hW]; exact (RD.out.drewN nq))
  have GW := Lib.hid (show w.grownBy W (some g) by rw [hW]; exact grownBy_trans (grownBy_drewN _ _ _) (grownBy_set _ _ _))
  rw [← hW]
  clear hW RD c0 c1 c2 d0 d1 d2
  go_quiet (fail)
  go_wp2
  go_ret
  rw [HF.out]
  exact ⟨rfl, RW.out.drewN _, grownBy_trans GW.out (grownBy_drewN _ _ _)⟩

theorem rint_any (B g : Nat) (r : List Fld) (bad : Bool) (most : Int) (w : World) (h : RRd w B g r bad) (hg : B ≤ g) :
    Calls Try.prog 70 #[.pointer (some ⟨g, 0, none⟩), .int .i64 most] w fun ev w' => ev = .returned (.int .i64 (rintP r bad most).1) ∧ RRd w' B g (rintP r bad most).2.1 (rintP r bad most).2.2 ∧ w.grownBy w' (some g) := by
  show RintPost B g r bad most w
  cases bad with
  | true => exact rint_bad B g fld0 r most w h hg
  | false =>
    match r, h with
    | [], h => exact rint_none B g fld0 [] most w h hg
    | f :: r, h =>
      by_cases hk : f.kind = 1
      · by_cases hc : f.n < 0
        · exact rint_lo B g f r most w h hg hk hc
        · by_cases hm : most < f.n
          · exact rint_hi B g f r most w h hg hk (by omega) hm
          · exact rint_ok B g f r most w h hg hk (by omega) (by omega)
      · exact rint_kind B g f r most w h hg hk

/-- What Text answers. -/
def RtextPost (B g : Nat) (r : List Fld) (bad : Bool) (w : World) : Prop :=
  Calls Try.prog 71 #[.pointer (some ⟨g, 0, none⟩)] w fun ev w' => ev = .returned (.string (rtextP r bad).1) ∧ RRd w' B g (rtextP r bad).2.1 (rtextP r bad).2.2 ∧ w.grownBy w' (some g)

set_option maxRecDepth 100000 in
set_option maxHeartbeats 8000000 in
theorem rtext_bad (B g : Nat) (f : Fld) (r : List Fld) (w : World) (h : RRd w B g r true) (hg : B ≤ g) :
    RtextPost B g r true w := by
  unfold RtextPost
  have HR := Lib.hid h
  obtain ⟨A, n, c, at_, l, c0, c1, c2, z, hsl, hnc, hcm, hat, hl⟩ := h
  have hcm' := hcm
  unfold maxLen at hcm'
  have HF := Lib.hid (show rtextP r true = (⟨#[]⟩, r, true) from rfl)
  clear hsl hl
  go_enter Try.func71, Try.ntmps71
  go_wp2
  go_quiet (fail)
  go_wp2
  go_ret
  rw [HF.out]
  exact ⟨rfl, (HR.out.fault hg true), by first | exact grownBy_set _ _ _ | exact grownBy_trans (grownBy_drewN _ _ _) (grownBy_set _ _ _) | exact grownBy_trans (grownBy_set _ _ _) (grownBy_drewN _ _ _)⟩

set_option maxRecDepth 100000 in
set_option maxHeartbeats 8000000 in
theorem rtext_none (B g : Nat) (f : Fld) (r : List Fld) (w : World) (h : RRd w B g [] false) (hg : B ≤ g) :
    RtextPost B g [] false w := by
  unfold RtextPost
  have HR := Lib.hid h
  obtain ⟨A, n, c, at_, l, c0, c1, c2, z, hsl, hnc, hcm, hat, hl⟩ := h
  have hcm' := hcm
  unfold maxLen at hcm'
  obtain rfl : at_ = n := by have := congrArg List.length hl; rw [List.length_drop, ← hsl.len] at this; simp at this; omega
  have HF := Lib.hid (show rtextP [] false = (⟨#[]⟩, [], true) from rfl)
  clear hsl hl hat
  have hd1 : decide ((at_ : Int) ≤ (at_ : Int)) = true := decide_eq_true (Int.le_refl _)
  have hd1n : decide (at_ ≤ at_) = true := decide_eq_true (Nat.le_refl _)
  go_enter Try.func71, Try.ntmps71
  go_wp2
  go_quiet (fail)
  go_wp2
  go_ret
  rw [HF.out]
  exact ⟨rfl, (HR.out.fault hg true), by first | exact grownBy_set _ _ _ | exact grownBy_trans (grownBy_drewN _ _ _) (grownBy_set _ _ _) | exact grownBy_trans (grownBy_set _ _ _) (grownBy_drewN _ _ _)⟩

set_option maxRecDepth 100000 in
set_option maxHeartbeats 8000000 in
theorem rtext_kind (B g : Nat) (f : Fld) (r : List Fld) (w : World) (h : RRd w B g (f :: r) false) (hg : B ≤ g) (hk : ¬ f.kind = 2) :
    RtextPost B g (f :: r) false w := by
  unfold RtextPost
  have HR := Lib.hid h
  obtain ⟨A, n, c, at_, l, c0, c1, c2, z, hsl, hnc, hcm, hat, hl⟩ := h
  have hcm' := hcm
  unfold maxLen at hcm'
  obtain ⟨hlt, b, off, rfl, hb, d0, d1, d2⟩ := at_cells hsl hat hl
  have hbs : b < w.heap.size := World.block_lt_of_cell? w _ d0
  have hd1 : decide ((n : Int) ≤ (at_ : Int)) = false := decide_eq_false (by omega)
  have hd1n : decide (n ≤ at_) = false := decide_eq_false (by omega)
  have hlti : (at_ : Int) < (n : Int) := by omega
  have HS := Lib.hid hsl
  have HL := Lib.hid hl
  clear hsl hl
  have HF := Lib.hid (show rtextP (f :: r) false = (⟨#[]⟩, f :: r, true) from if_neg hk)
  have hk1 : (f.kind == 2) = false := by simpa using hk
  have hk2 : (f.kind != 2) = true := by simpa using hk
  clear hk
  go_enter Try.func71, Try.ntmps71
  go_wp2
  go_quiet (fail)
  go_wp2
  go_ret
  rw [HF.out]
  exact ⟨rfl, (HR.out.fault hg true), by first | exact grownBy_set _ _ _ | exact grownBy_trans (grownBy_drewN _ _ _) (grownBy_set _ _ _) | exact grownBy_trans (grownBy_set _ _ _) (grownBy_drewN _ _ _)⟩

set_option maxRecDepth 100000 in
set_option maxHeartbeats 8000000 in
theorem rtext_ok (B g : Nat) (f : Fld) (r : List Fld) (w : World) (h : RRd w B g (f :: r) false) (hg : B ≤ g) (hk : f.kind = 2) :
    RtextPost B g (f :: r) false w := by
  unfold RtextPost
  have HR := Lib.hid h
  obtain ⟨A, n, c, at_, l, c0, c1, c2, z, hsl, hnc, hcm, hat, hl⟩ := h
  have hcm' := hcm
  unfold maxLen at hcm'
  obtain ⟨hlt, b, off, rfl, hb, d0, d1, d2⟩ := at_cells hsl hat hl
  have hbs : b < w.heap.size := World.block_lt_of_cell? w _ d0
  have hd1 : decide ((n : Int) ≤ (at_ : Int)) = false := decide_eq_false (by omega)
  have hd1n : decide (n ≤ at_) = false := decide_eq_false (by omega)
  have hlti : (at_ : Int) < (n : Int) := by omega
  have HS := Lib.hid hsl
  have HL := Lib.hid hl
  clear hsl hl
  have hk1 : (f.kind == 2) = true := by simpa using hk
  have hk2 : (f.kind != 2) = false := by simpa using hk
  have HF := Lib.hid (show rtextP (f :: r) false = (f.s, r, false) from if_pos hk)
  clear hk
  go_enter Try.func71, Try.ntmps71
  go_wp2
  go_quiet (fail)
  go_wp2
  have hne : b ≠ g := by omega
  have hs1 : IntKind.i64.wrap ((at_ : Int) + 1 - 1) = (at_ : Int) := by rw [show (at_ : Int) + 1 - 1 = (at_ : Int) by omega]; exact IntWalk.i64_in _ (by omega)
  have hs2 : IntKind.i64.wrap (at_ : Int) = (at_ : Int) := IntWalk.i64_in _ (by omega)
  have hs3 : (0 : Int) ≤ (at_ : Int) := by omega
  have hs4 : ((at_ : Int)).toNat = at_ := by omega
  have RD := Lib.hid (RRd.took (f := f) (r := r) hg c0 c1 c2 z HS.out hnc hcm hlt HL.out)
  obtain ⟨W, hW⟩ : ∃ W, W = (w.drewN nq).setCell ⟨g, 1, none⟩ (.int .i64 ((at_ : Int) + 1)) := ⟨_, rfl⟩
  have e0 : W.cell? ⟨g, 0, none⟩ = some (.slice (some ⟨b, off, none⟩) n c) := by rw [hW, World.cell?_setCell_other _ _ _ _ (by intro h; injection h with _ h2; cases h2)]; exact c0
  have e1 : W.cell? ⟨g, 1, none⟩ = some (.int .i64 ((at_ : Int) + 1)) := by rw [hW]; exact World.cell?_setCell_same _ _ _ c1
  have e2 : W.cell? ⟨b, off + at_ * 3 + 2, none⟩ = some (.string f.s) := by rw [hW, World.cell?_setCell_other _ _ _ _ (by intro h; injection h with h2; exact hne h2.symm)]; exact d2
  have RW := Lib.hid (show RRd W B g r false by rw [hW]; exact (RD.out.drewN nq))
  have GW := Lib.hid (show w.grownBy W (some g) by rw [hW]; exact grownBy_trans (grownBy_drewN _ _ _) (grownBy_set _ _ _))
  rw [← hW]
  clear hW RD c0 c1 c2 d0 d1 d2
  go_quiet (fail)
  go_wp2
  go_ret
  rw [HF.out]
  exact ⟨rfl, RW.out.drewN _, grownBy_trans GW.out (grownBy_drewN _ _ _)⟩

theorem rtext_any (B g : Nat) (r : List Fld) (bad : Bool) (w : World) (h : RRd w B g r bad) (hg : B ≤ g) :
    Calls Try.prog 71 #[.pointer (some ⟨g, 0, none⟩)] w fun ev w' => ev = .returned (.string (rtextP r bad).1) ∧ RRd w' B g (rtextP r bad).2.1 (rtextP r bad).2.2 ∧ w.grownBy w' (some g) := by
  show RtextPost B g r bad w
  cases bad with
  | true => exact rtext_bad B g fld0 r w h hg
  | false =>
    match r, h with
    | [], h => exact rtext_none B g fld0 [] w h hg
    | f :: r, h =>
      by_cases hk : f.kind = 2
      · exact rtext_ok B g f r w h hg hk
      · exact rtext_kind B g f r w h hg hk

/-- The next bit. -/
def rflagP (l : List Fld) (bad : Bool) : Bool × List Fld × Bool := (decide ((rintP l bad 1).1 = 1), (rintP l bad 1).2)


set_option maxRecDepth 100000 in
set_option maxHeartbeats 8000000 in
theorem rend_any (B g : Nat) (l : List Fld) (bad : Bool) (w : World) (h : RRd w B g l bad) :
    Calls Try.prog 72 #[.pointer (some ⟨g, 0, none⟩)] w fun ev w' => ev = .returned (.bool (!bad && l.isEmpty)) ∧ ∃ k, w' = w.drewN k := by
  obtain ⟨A, n, c, at_, l0, c0, c1, c2, z, hsl, hnc, hcm, hat, hl⟩ := h
  cases bad with
  | true =>
    clear hsl hl
    go_enter Try.func72, Try.ntmps72
    go_wp2
    go_quiet (fail)
    go_wp2
    go_ret
    exact ⟨rfl, _, rfl⟩
  | false =>
    cases l with
    | nil =>
      obtain rfl : at_ = n := by have := congrArg List.length hl; rw [List.length_drop, ← hsl.len] at this; simp at this; omega
      clear hsl hl
      go_enter Try.func72, Try.ntmps72
      go_wp2
      go_quiet (fail)
      go_wp2
      go_ret
      exact ⟨rfl, _, rfl⟩
    | cons x r =>
      have hlt : at_ < n := by have := congrArg List.length hl; rw [List.length_drop, ← hsl.len] at this; simp at this; omega
      have hnb : ((at_ : Int) == (n : Int)) = false := by simp; omega
      have hnn : (at_ == n) = false := by simp; omega
      have hnn2 : (at_ = n) = False := by simp; omega
      clear hsl hl
      go_enter Try.func72, Try.ntmps72
      go_wp2
      go_quiet (fail)
      go_wp2
      go_ret
      exact ⟨rfl, _, rfl⟩

/-- A change of the next fields. -/
def rrChg (l : List Fld) (bad : Bool) : Chg × List Fld × Bool :=
  let a := rintP l bad 7
  let b := rintP a.2.1 a.2.2 1099511627776
  let c := rflagP b.2.1 b.2.2
  let d := rtextP c.2.1 c.2.2
  (⟨a.1, b.1, c.1, d.1⟩, d.2)

theorem rintP_wf {l : List Fld} (h : wfL l) (bad : Bool) (m : Int) (hm : 0 ≤ m) : 0 ≤ (rintP l bad m).1 ∧ (rintP l bad m).1 ≤ m ∧ wfL (rintP l bad m).2.1 := by
  cases bad
  · cases l with
    | nil => exact ⟨Int.le_refl _, hm, h⟩
    | cons f r =>
      unfold rintP
      dsimp only
      split
      · exact ⟨by omega, by omega, fun x hx => h x (List.mem_cons_of_mem _ hx)⟩
      · exact ⟨Int.le_refl _, hm, h⟩
  · exact ⟨Int.le_refl _, hm, h⟩

theorem rtextP_wf {l : List Fld} (h : wfL l) (bad : Bool) : (rtextP l bad).1.size ≤ maxLen ∧ wfL (rtextP l bad).2.1 := by
  cases bad
  · cases l with
    | nil => exact ⟨Nat.zero_le _, h⟩
    | cons f r =>
      unfold rtextP
      dsimp only
      split
      · exact ⟨(h f (List.mem_cons_self ..)).2.2, fun x hx => h x (List.mem_cons_of_mem _ hx)⟩
      · exact ⟨Nat.zero_le _, h⟩
  · exact ⟨Nat.zero_le _, h⟩

theorem rflagP_wf {l : List Fld} (h : wfL l) (bad : Bool) : wfL (rflagP l bad).2.1 := (rintP_wf h bad 1 (by omega)).2.2

theorem rrChg_wf {l : List Fld} (h : wfL l) (bad : Bool) : (rrChg l bad).1.wf ∧ wfL (rrChg l bad).2.1 := by
  have ha := rintP_wf h bad 7 (by omega)
  have hb := rintP_wf ha.2.2 (rintP l bad 7).2.2 1099511627776 (by omega)
  have hc := rflagP_wf hb.2.2 (rintP (rintP l bad 7).2.1 (rintP l bad 7).2.2 1099511627776).2.2
  have hd := rtextP_wf hc (rflagP (rintP (rintP l bad 7).2.1 (rintP l bad 7).2.2 1099511627776).2.1 (rintP (rintP l bad 7).2.1 (rintP l bad 7).2.2 1099511627776).2.2).2.2
  refine ⟨⟨?_, ?_, hd.1⟩, hd.2⟩
  · show I64 (rintP l bad 7).1
    unfold I64
    omega
  · show I64 (rintP (rintP l bad 7).2.1 (rintP l bad 7).2.2 1099511627776).1
    unfold I64
    omega

theorem RRd.new {w : World} {A : Option Addr} {n c : Nat} {l : List Fld} (h : IsSl fldRep w (· < w.heap.size) A n l) (hnc : n ≤ c) (hcm : c ≤ maxLen) (t : TypeId) : RRd (w.alloc (.cells #[.slice A n c, .int .i64 0, .bool false] t)) w.heap.size w.heap.size l false := by
  obtain ⟨c0, c1, c2, z⟩ := (Blk.new (w := w) (cs := #[.slice A n c, .int .i64 0, .bool false]) (t := t) rfl rfl).c3
  exact ⟨A, n, c, 0, l, c0, c1, c2, z, h.below ((Below.refl _ _).alloc (Nat.le_refl _) _), hnc, hcm, Nat.zero_le _, rfl⟩


end Go.Proofs.Ythhpddiicnjmmaa
