/- Contracts of the reference's reader of fields: Text, Flag, End, Change. -/
import Derived.Test.YtojjeogpggielaaTxn10
set_option linter.unusedVariables false
set_option linter.unusedSimpArgs false
namespace Go.Proofs.Ytojjeogpggielaa
open Go.RowKit

/-- What Text answers. -/
def RtextPost (B g : Nat) (r : List Fld) (bad : Bool) (w : World) : Prop :=
  Calls Try.prog 106 #[.pointer (some ⟨g, 0, none⟩)] w fun ev w' => ev = .returned (.string (rtextP r bad).1) ∧ RRd w' B g (rtextP r bad).2.1 (rtextP r bad).2.2 ∧ w.grownBy w' (some g)

set_option maxRecDepth 100000 in
set_option maxHeartbeats 8000000 in
theorem rtext_bad (B g : Nat) (f : Fld) (r : List Fld) (w : World) (h : RRd w B g r true) (hg : B ≤ g) :
    RtextPost B g r true w := by
  unfold RtextPost
  have HR := Lib.hid h
  obtain ⟨A, n, c, at_, l, c0, c1, c2, z, hsl, hnc, hcm, hat, hl⟩ := h
  have hcm' := hcm
  unfold maxLen at hcm'
  have HF := Lib.hid (show rtextP r true = (⟨#[]⟩, r, true) from rfl)
  clear hsl hl
  go_enter Try.func106, Try.ntmps106
  go_wp2
  go_quiet (fail)
  go_wp2
  go_ret
  rw [HF.out]
  exact ⟨rfl, (HR.out.fault hg true), by first | exact grownBy_set _ _ _ | exact grownBy_trans (grownBy_drewN _ _ _) (grownBy_set _ _ _) | exact grownBy_trans (grownBy_set _ _ _) (grownBy_drewN _ _ _)⟩

set_option maxRecDepth 100000 in
set_option maxHeartbeats 8000000 in
theorem rtext_none (B g : Nat) (f : Fld) (r : List Fld) (w : World) (h : RRd w B g [] false) (hg : B ≤ g) :
    RtextPost B g [] false w := by
  unfold RtextPost
  have HR := Lib.hid h
  obtain ⟨A, n, c, at_, l, c0, c1, c2, z, hsl, hnc, hcm, hat, hl⟩ := h
  have hcm' := hcm
  unfold maxLen at hcm'
  obtain rfl : at_ = n := by have := congrArg List.length hl; rw [List.length_drop, ← hsl.len] at this; simp at this; omega
  have HF := Lib.hid (show rtextP [] false = (⟨#[]⟩, [], true) from rfl)
  clear hsl hl hat
  have hd1 : decide ((at_ : Int) ≤ (at_ : Int)) = true := decide_eq_true (Int.le_refl _)
  have hd1n : decide (at_ ≤ at_) = true := decide_eq_true (Nat.le_refl _)
  go_enter Try.func106, Try.ntmps106
  go_wp2
  go_quiet (fail)
  go_wp2
  go_ret
  rw [HF.out]
  exact ⟨rfl, (HR.out.fault hg true), by first | exact grownBy_set _ _ _ | exact grownBy_trans (grownBy_drewN _ _ _) (grownBy_set _ _ _) | exact grownBy_trans (grownBy_set _ _ _) (grownBy_drewN _ _ _)⟩

set_option maxRecDepth 100000 in
set_option maxHeartbeats 8000000 in
theorem rtext_kind (B g : Nat) (f : Fld) (r : List Fld) (w : World) (h : RRd w B g (f :: r) false) (hg : B ≤ g) (hk : ¬ f.kind = 2) :
    RtextPost B g (f :: r) false w := by
  unfold RtextPost
  have HR := Lib.hid h
  obtain ⟨A, n, c, at_, l, c0, c1, c2, z, hsl, hnc, hcm, hat, hl⟩ := h
  have hcm' := hcm
  unfold maxLen at hcm'
  obtain ⟨hlt, b, off, rfl, hb, d0, d1, d2⟩ := at_cells hsl hat hl
  have hbs : b < w.heap.size := World.block_lt_of_cell? w _ d0
  have hd1 : decide ((n : Int) ≤ (at_ : Int)) = false := decide_eq_false (by omega)
  have hd1n : decide (n ≤ at_) = false := decide_eq_false (by omega)
  have hlti : (at_ : Int) < (n : Int) := by omega
  have HS := Lib.hid hsl
  have HL := Lib.hid hl
  clear hsl hl
  have HF := Lib.hid (show rtextP (f :: r) false = (⟨#[]⟩, f :: r, true) from if_neg hk)
  have hk1 : (f.kind == 2) = false := by simpa using hk
  have hk2 : (f.kind != 2) = true := by simpa using hk
  clear hk
  go_enter Try.func106, Try.ntmps106
  go_wp2
  go_quiet (fail)
  go_wp2
  go_ret
  rw [HF.out]
  exact ⟨rfl, (HR.out.fault hg true), by first | exact grownBy_set _ _ _ | exact grownBy_trans (grownBy_drewN _ _ _) (grownBy_set _ _ _) | exact grownBy_trans (grownBy_set _ _ _) (grownBy_drewN _ _ _)⟩

set_option maxRecDepth 100000 in
set_option maxHeartbeats 8000000 in
theorem rtext_ok (B g : Nat) (f : Fld) (r : List Fld) (w : World) (h : RRd w B g (f :: r) false) (hg : B ≤ g) (hk : f.kind = 2) :
    RtextPost B g (f :: r) false w := by
  unfold RtextPost
  have HR := Lib.hid h
  obtain ⟨A, n, c, at_, l, c0, c1, c2, z, hsl, hnc, hcm, hat, hl⟩ := h
  have hcm' := hcm
  unfold maxLen at hcm'
  obtain ⟨hlt, b, off, rfl, hb, d0, d1, d2⟩ := at_cells hsl hat hl
  have hbs : b < w.heap.size := World.block_lt_of_cell? w _ d0
  have hd1 : decide ((n : Int) ≤ (at_ : Int)) = false := decide_eq_false (by omega)
  have hd1n : decide (n ≤ at_) = false := decide_eq_false (by omega)
  have hlti : (at_ : Int) < (n : Int) := by omega
  have HS := Lib.hid hsl
  have HL := Lib.hid hl
  clear hsl hl
  have hk1 : (f.kind == 2) = true := by simpa using hk
  have hk2 : (f.kind != 2) = false := by simpa using hk
  have HF := Lib.hid (show rtextP (f :: r) false = (f.s, r, false) from if_pos hk)
  clear hk
  go_enter Try.func106, Try.ntmps106
  go_wp2
  go_quiet (fail)
  go_wp2
  have hne : b ≠ g := by omega
  have hs1 : IntKind.i64.wrap ((at_ : Int) + 1 - 1) = (at_ : Int) := by rw [show (at_ : Int) + 1 - 1 = (at_ : Int) by omega]; exact IntWalk.i64_in _ (by omega)
  have hs2 : IntKind.i64.wrap (at_ : Int) = (at_ : Int) := IntWalk.i64_in _ (by omega)
  have hs3 : (0 : Int) ≤ (at_ : Int) := by omega
  have hs4 : ((at_ : Int)).toNat = at_ := by omega
  have RD := Lib.hid (RRd.took (f := f) (r := r) hg c0 c1 c2 z HS.out hnc hcm hlt HL.out)
  obtain ⟨W, hW⟩ : ∃ W, W = (w.drewN nq).setCell ⟨g, 1, none⟩ (.int .i64 ((at_ : Int) + 1)) := ⟨_, rfl⟩
  have e0 : W.cell? ⟨g, 0, none⟩ = some (.slice (some ⟨b, off, none⟩) n c) := by rw [hW, World.cell?_setCell_other _ _ _ _ (by intro h; injection h with _ h2; cases h2)]; exact c0
  have e1 : W.cell? ⟨g, 1, none⟩ = some (.int .i64 ((at_ : Int) + 1)) := by rw [hW]; exact World.cell?_setCell_same _ _ _ c1
  have e2 : W.cell? ⟨b, off + at_ * 3 + 2, none⟩ = some (.string f.s) := by rw [hW, World.cell?_setCell_other _ _ _ _ (by intro h; injection h with h2; exact hne h2.symm)]; exact d2
  have RW := Lib.hid (show RRd W B g r false by rw [hW]; exact (RD.out.drewN nq))
  have GW := Lib.hid (show w.grownBy W (some g) by rw [hW]; exact grownBy_trans (grownBy_drewN _ _ _) (grownBy_set _ _ _))
  rw [← hW]
  clear hW RD c0 c1 c2 d0 d1 d2
  go_quiet (fail)
  go_wp2
  go_ret
  rw [HF.out]
  exact ⟨rfl, RW.out.drewN _, grownBy_trans GW.out (grownBy_drewN _ _ _)⟩

theorem rtext_any (B g : Nat) (r : List Fld) (bad : Bool) (w : World) (h : RRd w B g r bad) (hg : B ≤ g) :
    Calls Try.prog 106 #[.pointer (some ⟨g, 0, none⟩)] w fun ev w' => ev = .returned (.string (rtextP r bad).1) ∧ RRd w' B g (rtextP r bad).2.1 (rtextP r bad).2.2 ∧ w.grownBy w' (some g) := by
  show RtextPost B g r bad w
  cases bad with
  | true => exact rtext_bad B g fld0 r w h hg
  | false =>
    match r, h with
    | [], h => exact rtext_none B g fld0 [] w h hg
    | f :: r, h =>
      by_cases hk : f.kind = 2
      · exact rtext_ok B g f r w h hg hk
      · exact rtext_kind B g f r w h hg hk

/-- The next bit. -/
def rflagP (l : List Fld) (bad : Bool) : Bool × List Fld × Bool := (decide ((rintP l bad 1).1 = 1), (rintP l bad 1).2)

set_option maxRecDepth 100000 in
set_option maxHeartbeats 1000000 in
theorem rflag_any (B g : Nat) (l : List Fld) (bad : Bool) (w : World) (h : RRd w B g l bad) (hg : B ≤ g) :
    Calls Try.prog 129 #[.pointer (some ⟨g, 0, none⟩)] w fun ev w' => ev = .returned (.bool (rflagP l bad).1) ∧ RRd w' B g (rflagP l bad).2.1 (rflagP l bad).2.2 ∧ w.grownBy w' (some g) := by
  have H := Lib.hid h
  clear h
  go_enter Try.func129, Try.ntmps129
  go_wp2_with (first
    | (go_at_call 104; (with_reducible refine (rint_any B g l bad 1 _ H.out hg).mono ?_); rintro ev w2 ⟨rfl, rd2, gr2⟩; have RD2 := Lib.hid rd2; have GR2 := Lib.hid gr2; clear rd2 gr2)
    | fail)
  go_ret
  exact ⟨by unfold rflagP; rfl, RD2.out, GR2.out⟩

set_option maxRecDepth 100000 in
set_option maxHeartbeats 8000000 in
theorem rend_any (B g : Nat) (l : List Fld) (bad : Bool) (w : World) (h : RRd w B g l bad) :
    Calls Try.prog 107 #[.pointer (some ⟨g, 0, none⟩)] w fun ev w' => ev = .returned (.bool (!bad && l.isEmpty)) ∧ ∃ k, w' = w.drewN k := by
  obtain ⟨A, n, c, at_, l0, c0, c1, c2, z, hsl, hnc, hcm, hat, hl⟩ := h
  cases bad with
  | true =>
    clear hsl hl
    go_enter Try.func107, Try.ntmps107
    go_wp2
    go_quiet (fail)
    go_wp2
    go_ret
    exact ⟨rfl, _, rfl⟩
  | false =>
    cases l with
    | nil =>
      obtain rfl : at_ = n := by have := congrArg List.length hl; rw [List.length_drop, ← hsl.len] at this; simp at this; omega
      clear hsl hl
      go_enter Try.func107, Try.ntmps107
      go_wp2
      go_quiet (fail)
      go_wp2
      go_ret
      exact ⟨rfl, _, rfl⟩
    | cons x r =>
      have hlt : at_ < n := by have := congrArg List.length hl; rw [List.length_drop, ← hsl.len] at this; simp at this; omega
      have hnb : ((at_ : Int) == (n : Int)) = false := by simp; omega
      have hnn : (at_ == n) = false := by simp; omega
      have hnn2 : (at_ = n) = False := by simp; omega
      clear hsl hl
      go_enter Try.func107, Try.ntmps107
      go_wp2
      go_quiet (fail)
      go_wp2
      go_ret
      exact ⟨rfl, _, rfl⟩
end Go.Proofs.Ytojjeogpggielaa
