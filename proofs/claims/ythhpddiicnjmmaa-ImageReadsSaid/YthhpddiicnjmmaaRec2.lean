/- Contracts: rec.holder.size, rec.of. -/
import Derived.Test.YthhpddiicnjmmaaRec1
import Derived.Handy
import Derived.Deep.RegionHeld3
set_option maxRecDepth 100000
namespace Go.Proofs.Ythhpddiicnjmmaa
open Go.RowKit

set_option maxHeartbeats 1000000 in
theorem hsize_any (A : Option Addr) (n c : Nat) (w : World) (hn : n < 4294967296) :
    Calls Try.prog 117 #[.agg #[.slice A n c]] w fun e w' => ∃ g, e = .returned (.slice (some ⟨g, 0, none⟩) 4 4) ∧ w.heap.size ≤ g ∧ g < w'.heap.size ∧ IsSl byteRep w' (· < w'.heap.size) (some ⟨g, 0, none⟩) 4 (bigB n 4) ∧ Below w.heap.size w w' := by
  go_enter Try.func117, Try.ntmps117
  go_wp2_with (first
    | (go_at_call 148; (with_reducible refine (four_any n _ rfl _ hn).mono ?_); rintro e w2 ⟨g, rfl, h1, h2, h3, h4⟩)
    | fail)
  go_ret
  exact ⟨g, rfl, by simp at h1; omega, h2, h3, ((Below.refl _ _).alloc (Nat.le_refl _) _).trans (h4.mono (by simp))⟩

/-- A list without pointers in one block: that block's cells are all that counts. -/
theorem IsSl.moved {α : Type} {R : Rep α} {w w' : World} {S S' : Nat → Prop} {g off n : Nat} {l : List α} (hf : Flat R) (h : IsSl R w S (some ⟨g, off, none⟩) n l) (hk : ∀ j, w'.cell? ⟨g, j, none⟩ = w.cell? ⟨g, j, none⟩) (hS : S' g) : IsSl R w' S' (some ⟨g, off, none⟩) n l := by
  obtain ⟨h1, xss, h2, h3⟩ := h
  refine ⟨h1, xss, h2.flat hf, fun hne => ?_⟩
  obtain ⟨b, o, hA, _, hc⟩ := h3 hne
  injection hA with hA
  injection hA with e1 e2 _
  subst e1 e2
  exact ⟨g, off, rfl, hS, fun j u hu => (hk _).trans (hc j u hu)⟩

/-- The sum of a record. -/
def recSum (p : List UInt8) : Nat := moreC (moreC 0 (bigB p.length 4)) p

set_option maxHeartbeats 2000000 in
theorem of_any (A : Option Addr) (n c : Nat) (p : List UInt8) (w : World) (h : IsSl byteRep w (· < w.heap.size) A n p) (hn : n ≤ 1100000) (h1 : n ≤ c) (h2 : c ≤ maxLen) :
    Calls Try.prog 115 #[.slice A n c] w fun e w' => ∃ g, e = .returned (.agg #[.slice A n c, .slice (some ⟨g, 0, none⟩) 4 4]) ∧ w.heap.size ≤ g ∧ g < w'.heap.size ∧ IsSl byteRep w' (· < w'.heap.size) (some ⟨g, 0, none⟩) 4 (bigB (recSum p) 4) ∧ Below w.heap.size w w' := by
  have H := Lib.hid h
  have HL := Lib.hid h.len
  clear h
  go_enter Try.func115, Try.ntmps115
  obtain ⟨W0, hW0⟩ : ∃ W0, W0 = (w.alloc (.cells #[.slice none 0 0, .slice none 0 0] 188)).alloc (.cells #[.slice A n c] 186) := ⟨_, rfl⟩
  have b0 : Below w.heap.size w W0 := by rw [hW0]; exact ((Below.refl _ _).alloc (Nat.le_refl _) _).alloc (by simp) _
  have s0 : w.heap.size + 2 ≤ W0.heap.size := by rw [hW0]; simp
  have l0 : w.heap.size < W0.heap.size := by omega
  have l1 : w.heap.size + 1 < W0.heap.size := by omega
  have q0 : W0.cell? ⟨w.heap.size + 1, 0, none⟩ = some (.slice A n c) := by rw [hW0]; exact World.cell?_alloc_at _ _ _ _ (by simp)
  have hbr : Below (w.heap.size + 1) (w.alloc (.cells #[.slice none 0 0, .slice none 0 0] 188)) W0 := by rw [hW0]; exact (Below.refl _ _).alloc (by simp) _
  have r0 : W0.cell? ⟨w.heap.size, 0, none⟩ = some (.slice none 0 0) := (hbr.cell (p := ⟨w.heap.size, 0, none⟩) (by simp)).trans (World.cell?_alloc_at _ _ _ _ rfl)
  have r1 : W0.cell? ⟨w.heap.size, 1, none⟩ = some (.slice none 0 0) := (hbr.cell (p := ⟨w.heap.size, 1, none⟩) (by simp)).trans (World.cell?_alloc_at _ _ _ _ rfl)
  have y0 : W0.frozen? ⟨w.heap.size, 0, none⟩ = false := (hbr.frozen (p := ⟨w.heap.size, 0, none⟩) (by simp)).trans (by rw [frozen?_alloc_cells]; simp [World.frozen?])
  have y1 : W0.frozen? ⟨w.heap.size, 1, none⟩ = false := (hbr.frozen (p := ⟨w.heap.size, 1, none⟩) (by simp)).trans (by rw [frozen?_alloc_cells]; simp [World.frozen?])
  have hsum : moreC (moreC 0 (bigB n 4)) p < 4294967296 := moreC_lt _ _ (moreC_lt _ _ (by omega))
  have hrs : recSum p = moreC (moreC 0 (bigB n 4)) p := by unfold recSum; rw [HL.out]
  have HRS := Lib.hid hrs
  have hn32 : n < 4294967296 := by omega
  have hH0 := Lib.hid ((H.out.below b0).more b0.size)
  clear hbr hrs
  go_wp2_with fail
  rw [← hW0]
  clear hW0
  go_region_held3 (fun w' => w'.cell? ⟨w.heap.size + 1, 0, none⟩ = some (.slice A n c)) (first | exact q0 | exact k2 | exact kA _ | exact k4 | exact ((World.cell?_setCell_other _ _ _ _ (by simp)).trans (World.cell?_setCell_other _ _ _ _ (by simp))).trans k4)
    (first
      | (go_at_call 117; (with_reducible refine (hsize_any A n c _ hn32).mono ?_); rintro e w2 ⟨g, rfl, hg1, hg2, sl2, bel2'⟩; have bel2 : Below W0.heap.size W0 w2 := ⟨bel2'.os, bel2'.tape, bel2'.output, bel2'.size, bel2'.block⟩; have hs2 : W0.heap.size ≤ w2.heap.size := bel2.size; have k2 : w2.cell? ⟨w.heap.size + 1, 0, none⟩ = some (.slice A n c) := (bel2.cell (p := ⟨w.heap.size + 1, 0, none⟩) l1).trans q0; have l2 : w.heap.size + 1 < w2.heap.size := Nat.lt_of_lt_of_le l1 hs2; have kA : ∀ ob : Obj, (w2.alloc ob).cell? ⟨w.heap.size + 1, 0, none⟩ = some (.slice A n c) := fun ob => (((Below.refl w2.heap.size w2).alloc (Nat.le_refl _) ob).cell (p := ⟨w.heap.size + 1, 0, none⟩) l2).trans k2; have SL2 := Lib.hid sl2; have SP2 := Lib.hid ((hH0.out.below bel2).more hs2); have BEL2 := Lib.hid bel2; clear sl2 bel2 bel2')
      | (go_at_call 149; (with_reducible refine (sum2_any rfl SL2.out (Nat.le_refl _) (by unfold maxLen; omega) SP2.out h1 h2 (fun _ h => h)).mono ?_); rintro e w' ⟨rfl, rfl⟩)
      | (go_at_call 148; (with_reducible refine (four_any (moreC (moreC 0 (bigB n 4)) p) _ rfl _ hsum).mono ?_); rintro e w4 ⟨g4, rfl, hg41, hg42, sl4, bel4⟩; have bq4 : Below W0.heap.size W0 w4 := BEL2.out.trans ((((Below.refl w2.heap.size w2).alloc (Nat.le_refl _) _).trans (bel4.mono (by simp))).mono hs2); have k4 : w4.cell? ⟨w.heap.size + 1, 0, none⟩ = some (.slice A n c) := (bq4.cell (p := ⟨w.heap.size + 1, 0, none⟩) l1).trans q0; have t0 : w4.cell? ⟨w.heap.size, 0, none⟩ = some (.slice none 0 0) := (bq4.cell (p := ⟨w.heap.size, 0, none⟩) l0).trans r0; have t1 : w4.cell? ⟨w.heap.size, 1, none⟩ = some (.slice none 0 0) := (bq4.cell (p := ⟨w.heap.size, 1, none⟩) l0).trans r1; have x0 : w4.frozen? ⟨w.heap.size, 0, none⟩ = false := (bq4.frozen (p := ⟨w.heap.size, 0, none⟩) l0).trans y0; have x1 : w4.frozen? ⟨w.heap.size, 1, none⟩ = false := (bq4.frozen (p := ⟨w.heap.size, 1, none⟩) l0).trans y1; have SL4 := Lib.hid sl4; have BQ4 := Lib.hid bq4; clear sl4 bq4 bel4)
      | fail)
  go_wp2_with fail
  refine bodyPost_ret (by simp [results, Try.results115, go_sem, t0, t1]; try rfl) rfl ?_
  rw [HRS.out]
  have hgw : W0.heap.size ≤ g4 := Nat.le_trans hs2 (by simp at hg41; omega)
  have hne : w.heap.size ≠ g4 := by omega
  refine ⟨g4, rfl, by omega, by simp; exact hg42, SL4.out.moved flat_byte (fun j => ?_) (by simp; exact hg42), ((b0.trans (BQ4.out.mono b0.size)).setCell (Nat.le_refl _) _).setCell (Nat.le_refl _) _⟩
  exact (World.cell?_setCell_other _ _ _ _ (by intro e; injection e with e1 _; exact hne e1)).trans (World.cell?_setCell_other _ _ _ _ (by intro e; injection e with e1 _; exact hne e1))
end Go.Proofs.Ythhpddiicnjmmaa
