/- Contracts: field's reader.field, Decode, Encode. -/
import Derived.Test.YthhpddiicnjmmaaFld2
import Derived.Test.YthhpddiicnjmmaaMemB
namespace Go.Proofs.Ythhpddiicnjmmaa
open Go.RowKit

/-- The next field, what is left, and the fault. -/
def fieldF (rest : List UInt8) (e : Int) : Fld × List UInt8 × Int :=
  if (takeF rest e 1).1 = 1 then (⟨1, wrap64 ((takeF (takeF rest e 1).2.1 (takeF rest e 1).2.2 8).1 : Int), ByteArray.empty⟩, (takeF (takeF rest e 1).2.1 (takeF rest e 1).2.2 8).2)
  else if (takeF rest e 1).1 = 2 then
    (⟨2, 0, ⟨(nextF (mostF (takeF rest e 1).2.1 (takeF rest e 1).2.2 4096).2.1 (mostF (takeF rest e 1).2.1 (takeF rest e 1).2.2 4096).2.2 (mostF (takeF rest e 1).2.1 (takeF rest e 1).2.2 4096).1).1.toArray⟩⟩,
      (nextF (mostF (takeF rest e 1).2.1 (takeF rest e 1).2.2 4096).2.1 (mostF (takeF rest e 1).2.1 (takeF rest e 1).2.2 4096).2.2 (mostF (takeF rest e 1).2.1 (takeF rest e 1).2.2 4096).1).2)
  else (⟨0, 0, ByteArray.empty⟩, (takeF rest e 1).2.1, if (takeF rest e 1).2.2 = 0 then 3 else (takeF rest e 1).2.2)

theorem takeF_lt1 (rest : List UInt8) (e : Int) : (takeF rest e 1).1 < 256 := by
  have h := numB_lt (nextF rest e 1).1
  exact Nat.lt_of_lt_of_le h (Nat.pow_le_pow_right (by omega) (nextF_len rest e 1))

theorem takeF_lt8 (rest : List UInt8) (e : Int) : (takeF rest e 8).1 < 18446744073709551616 := by
  have h := numB_lt (nextF rest e 8).1
  have h8 : (256 : Nat) ^ 8 = 18446744073709551616 := by decide +kernel
  rw [← h8]
  exact Nat.lt_of_lt_of_le h (Nat.pow_le_pow_right (by omega) (nextF_len rest e 8))

theorem mostF_le (rest : List UInt8) (e : Int) (k : Nat) : (mostF rest e k).1 ≤ k := by
  unfold mostF; split <;> omega

theorem RdrIs.grown {w w' : World} {B g : Nat} {rest : List UInt8} {e : Int} {row : Option Nat} (h : RdrIs w B g rest e) (hg : B ≤ g) (gr : w.grownBy w' row) (hr : ∀ k, row = some k → B ≤ k ∧ k ≠ g) : RdrIs w' B g rest e := by
  obtain ⟨A, n, c, c0, c1, z0, z1, hsl, hnc, hcm⟩ := h
  have hgs : g < w.heap.size := World.block_lt_of_cell? w _ c0
  have hb : w'.heap[g]? = w.heap[g]? := gr.block g hgs (fun e => (hr g e.symm).2 rfl)
  refine ⟨A, n, c, (World.cell?_of_block (a := ⟨g, 0, none⟩) hb).trans c0, (World.cell?_of_block (a := ⟨g, 1, none⟩) hb).trans c1, (World.frozen?_of_block (a := ⟨g, 0, none⟩) hb).trans z0, (World.frozen?_of_block (a := ⟨g, 1, none⟩) hb).trans z1, hsl.keep fun p hp => ?_, hnc, hcm⟩
  exact World.cell?_of_block (gr.block p.block (by omega) (fun e => by have := (hr _ e.symm).1; omega))

theorem RdrIs.alloc {w : World} {B g : Nat} {rest : List UInt8} {e : Int} (h : RdrIs w B g rest e) (hg : B ≤ g) (o : Obj) : RdrIs (w.alloc o) B g rest e :=
  h.grown hg (World.grownBy_alloc w o none) (fun _ h => by cases h)

theorem RdrIs.lt {w : World} {B g : Nat} {rest : List UInt8} {e : Int} (h : RdrIs w B g rest e) : g < w.heap.size := by
  obtain ⟨A, n, c, c0, _⟩ := h
  exact World.block_lt_of_cell? w _ c0

/-- A block's cells where another block alone has been written. -/
theorem grown_cells {w w' : World} {g D j : Nat} {cs : Array Value} {t : TypeId} {u : Value} (hg : g < w.heap.size) (hD : D = w.heap.size) (gr : (w.alloc (.cells cs t)).grownBy w' (some g)) (hu : cs[j]? = some u) : w'.cell? ⟨D, j, none⟩ = some u ∧ w'.frozen? ⟨D, j, none⟩ = false := by
  subst hD
  have hb := gr.block w.heap.size (by simp) (by intro e; injection e with e; omega)
  refine ⟨(World.cell?_of_block (a := ⟨_, j, none⟩) hb).trans ((World.cell?_alloc_at _ _ _ _ rfl).trans hu), (World.frozen?_of_block (a := ⟨_, j, none⟩) hb).trans ?_⟩
  rw [frozen?_alloc_cells]
  simp [World.frozen?]

theorem RdrIs.stored {w : World} {B g D : Nat} {rest : List UInt8} {e : Int} (h : RdrIs w B g rest e) (hg : B ≤ g) (hD : g < D) (j : Nat) (u : Value) : RdrIs (w.setCell ⟨D, j, none⟩ u) B g rest e :=
  h.grown hg (grownBy_set w ⟨D, j, none⟩ u) (fun k hk => by injection hk with hk; subst hk; exact ⟨by dsimp only; omega, by dsimp only; omega⟩)

theorem grown_new {w w' : World} {o : Obj} {r : Option Nat} (h : (w.alloc o).grownBy w' r) : w.grownBy w' r :=
  grownBy_trans (World.grownBy_alloc w o r) h

theorem grown_set {w w' : World} {r : Option Nat} {p : Addr} {u : Value} (h : w.grownBy w' r) (hp : w.heap.size ≤ p.block) : w.grownBy (w'.setCell p u) r :=
  ⟨h.os, h.tape, h.output, by simpa using h.size, fun k hk hr => (Below.heap_setCell w' p u k (by omega)).trans (h.block k hk hr)⟩

set_option maxRecDepth 100000 in
set_option maxHeartbeats 1000000 in
theorem rfield_any (B g : Nat) (rest : List UInt8) (e : Int) (w : World) (h : RdrIs w B g rest e) (hg : B ≤ g) :
    Calls Try.prog 125 #[.pointer (some ⟨g, 0, none⟩)] w fun ev w' => ev = .returned (.agg (fieldF rest e).1.cells.toArray) ∧ RdrIs w' B g (fieldF rest e).2.1 (fieldF rest e).2.2 ∧ w.grownBy w' (some g) := by
  have hgs := h.lt
  have HA := Lib.hid (h.alloc hg (.cells #[.int .i64 0, .int .i64 0, .string ⟨#[]⟩] 41))
  have hlt1 := takeF_lt1 rest e
  obtain ⟨T, hT⟩ : ∃ T, T = takeF rest e 1 := ⟨_, rfl⟩
  rw [← hT] at hlt1
  obtain ⟨k, r1, e1⟩ := T
  have HT := Lib.hid hT
  dsimp only at hlt1
  clear h hT
  by_cases h1 : k = 1
  · subst h1
    have HF := Lib.hid (show fieldF rest e = (⟨1, wrap64 ((takeF r1 e1 8).1 : Int), ByteArray.empty⟩, (takeF r1 e1 8).2) by unfold fieldF; rw [← HT.out]; rfl)
    go_enter Try.func125, Try.ntmps125
    go_wp2_with (first
      | (go_at_call 151; (with_reducible refine (rnumber_any B g rest e 1 1 rfl _ HA.out hg (by omega)).mono ?_); rintro ev w2 ⟨rfl, rd2, gr2⟩; rw [← HT.out] at rd2 ⊢; have RD2 := Lib.hid rd2; have GR2 := Lib.hid gr2; obtain ⟨a0, y0⟩ := grown_cells (j := 0) hgs rfl gr2 rfl; obtain ⟨a1, y1⟩ := grown_cells (j := 1) hgs rfl gr2 rfl; obtain ⟨a2, y2⟩ := grown_cells (j := 2) hgs rfl gr2 rfl; clear rd2 gr2)
      | (go_at_call 151; (with_reducible refine (rnumber_any B g r1 e1 8 8 rfl _ RD2.out hg (by omega)).mono ?_); rintro ev w3 ⟨rfl, rd3, gr3⟩; have RD3 := Lib.hid rd3; have GR3 := Lib.hid gr3; have hb3 : w3.heap[w.heap.size]? = w2.heap[w.heap.size]? := gr3.block _ (World.block_lt_of_cell? w2 _ a0) (by intro e; injection e with e; omega); have b0 := (World.cell?_of_block (a := ⟨w.heap.size, 0, none⟩) hb3).trans a0; have b1 := (World.cell?_of_block (a := ⟨w.heap.size, 1, none⟩) hb3).trans a1; have b2 := (World.cell?_of_block (a := ⟨w.heap.size, 2, none⟩) hb3).trans a2; have x0 := (World.frozen?_of_block (a := ⟨w.heap.size, 0, none⟩) hb3).trans y0; have x1 := (World.frozen?_of_block (a := ⟨w.heap.size, 1, none⟩) hb3).trans y1; have x2 := (World.frozen?_of_block (a := ⟨w.heap.size, 2, none⟩) hb3).trans y2; clear rd3 gr3 hb3))
    refine bodyPost_ret (by simp [results, Try.results125, go_sem, b0, b1, b2]; try rfl) rfl ?_
    rw [HF.out]
    exact ⟨rfl, (((RD3.out.stored hg hgs 0 _).stored hg hgs 1 _).stored hg hgs 2 _), grown_set (grown_set (grown_set (grown_new (grownBy_trans GR2.out GR3.out)) (Nat.le_refl _)) (Nat.le_refl _)) (Nat.le_refl _)⟩
  · by_cases h2 : k = 2
    · subst h2
      obtain ⟨M, hM⟩ : ∃ M, M = mostF r1 e1 4096 := ⟨_, rfl⟩
      have hMle := mostF_le r1 e1 4096
      rw [← hM] at hMle
      obtain ⟨m, r2, e2⟩ := M
      dsimp only at hMle
      have HM := Lib.hid hM
      obtain ⟨X, hX⟩ : ∃ X, X = nextF r2 e2 m := ⟨_, rfl⟩
      obtain ⟨L, r3, e3⟩ := X
      have HX := Lib.hid hX
      have HF := Lib.hid (show fieldF rest e = (⟨2, 0, ⟨L.toArray⟩⟩, r3, e3) by unfold fieldF; rw [← HT.out]; dsimp only; rw [← HM.out]; dsimp only; rw [← HX.out]; rfl)
      clear hM hX
      go_enter Try.func125, Try.ntmps125
      go_wp2_with (first
        | (go_at_call 151; (with_reducible refine (rnumber_any B g rest e 1 1 rfl _ HA.out hg (by omega)).mono ?_); rintro ev w2 ⟨rfl, rd2, gr2⟩; rw [← HT.out] at rd2 ⊢; have RD2 := Lib.hid rd2; have GR2 := Lib.hid gr2; obtain ⟨a0, y0⟩ := grown_cells (j := 0) hgs rfl gr2 rfl; obtain ⟨a1, y1⟩ := grown_cells (j := 1) hgs rfl gr2 rfl; obtain ⟨a2, y2⟩ := grown_cells (j := 2) hgs rfl gr2 rfl; clear rd2 gr2)
        | (go_at_call 124; (with_reducible refine (most_any B g r1 e1 4096 4096 rfl _ RD2.out hg).mono ?_); rintro ev w3 ⟨rfl, rd3, gr3⟩; rw [← HM.out] at rd3 ⊢; have RD3 := Lib.hid rd3; have GR3 := Lib.hid gr3; have hb3 : w3.heap[w.heap.size]? = w2.heap[w.heap.size]? := gr3.block _ (World.block_lt_of_cell? w2 _ a0) (by intro e; injection e with e; omega); have b0 := (World.cell?_of_block (a := ⟨w.heap.size, 0, none⟩) hb3).trans a0; have zb0 := (World.frozen?_of_block (a := ⟨w.heap.size, 0, none⟩) hb3).trans y0; have b1 := (World.cell?_of_block (a := ⟨w.heap.size, 1, none⟩) hb3).trans a1; have zb1 := (World.frozen?_of_block (a := ⟨w.heap.size, 1, none⟩) hb3).trans y1; have b2 := (World.cell?_of_block (a := ⟨w.heap.size, 2, none⟩) hb3).trans a2; have zb2 := (World.frozen?_of_block (a := ⟨w.heap.size, 2, none⟩) hb3).trans y2; clear rd3 gr3 hb3)
        | (go_at_call 152; (with_reducible refine (next_any B g r2 e2 m _ RD3.out hg (by omega)).mono ?_); rintro ev w4 ⟨A4, n4, c4, rfl, sl4, hnc4, hcm4, rd4, gr4⟩; rw [← HX.out] at sl4 rd4; have hcv := run_str_of (P := Try.prog) (c := c4) 25 9 5 Try.underlying25 Try.underlying5 Try.underlying9 sl4; have RD4 := Lib.hid rd4; have GR4 := Lib.hid gr4; have hb4 : w4.heap[w.heap.size]? = w3.heap[w.heap.size]? := gr4.block _ (World.block_lt_of_cell? w3 _ b0) (by intro e; injection e with e; omega); have d0 := (World.cell?_of_block (a := ⟨w.heap.size, 0, none⟩) hb4).trans b0; have zd0 := (World.frozen?_of_block (a := ⟨w.heap.size, 0, none⟩) hb4).trans zb0; have d1 := (World.cell?_of_block (a := ⟨w.heap.size, 1, none⟩) hb4).trans b1; have zd1 := (World.frozen?_of_block (a := ⟨w.heap.size, 1, none⟩) hb4).trans zb1; have d2 := (World.cell?_of_block (a := ⟨w.heap.size, 2, none⟩) hb4).trans b2; have zd2 := (World.frozen?_of_block (a := ⟨w.heap.size, 2, none⟩) hb4).trans zb2; clear rd4 gr4 hb4 sl4))
      refine bodyPost_ret (by simp [results, Try.results125, go_sem, d0, d1, d2]; try rfl) rfl ?_
      rw [HF.out]
      exact ⟨rfl, (((RD4.out.stored hg hgs 0 _).stored hg hgs 1 _).stored hg hgs 2 _), grown_set (grown_set (grown_set (grown_new (grownBy_trans (grownBy_trans GR2.out GR3.out) GR4.out)) (Nat.le_refl _)) (Nat.le_refl _)) (Nat.le_refl _)⟩
    · have HF := Lib.hid (show fieldF rest e = (⟨0, 0, ByteArray.empty⟩, r1, if e1 = 0 then 3 else e1) by unfold fieldF; rw [← HT.out, if_neg h1, if_neg h2])
      have hk1 : ((k : Int) == 1) = false := by simp; omega
      have hk2 : ((k : Int) == 2) = false := by simp; omega
      by_cases he : e1 = 0
      · subst he
        go_enter Try.func125, Try.ntmps125
        go_wp2_with (first
          | (go_at_call 151; (with_reducible refine (rnumber_any B g rest e 1 1 rfl _ HA.out hg (by omega)).mono ?_); rintro ev w2 ⟨rfl, rd2, gr2⟩; rw [← HT.out] at rd2 ⊢; have RD2 := Lib.hid rd2; have GR2 := Lib.hid gr2; obtain ⟨a0, y0⟩ := grown_cells (j := 0) hgs rfl gr2 rfl; obtain ⟨a1, y1⟩ := grown_cells (j := 1) hgs rfl gr2 rfl; obtain ⟨a2, y2⟩ := grown_cells (j := 2) hgs rfl gr2 rfl; obtain ⟨_, _, _, c0, c1, z0, z1, _⟩ := rd2; clear gr2))
        refine bodyPost_ret (by simp [results, Try.results125, go_sem, a0, a1, a2]; try rfl) rfl ?_
        rw [HF.out, if_pos trivial]
        exact ⟨rfl, ((((RD2.out.fault hg 3).stored hg hgs 0 _).stored hg hgs 1 _).stored hg hgs 2 _), grown_set (grown_set (grown_set (grown_new (grownBy_trans GR2.out (grownBy_set _ _ _))) (Nat.le_refl _)) (Nat.le_refl _)) (Nat.le_refl _)⟩
      · have hb : (e1 == 0) = false := by simpa using he
        go_enter Try.func125, Try.ntmps125
        go_wp2_with (first
          | (go_at_call 151; (with_reducible refine (rnumber_any B g rest e 1 1 rfl _ HA.out hg (by omega)).mono ?_); rintro ev w2 ⟨rfl, rd2, gr2⟩; rw [← HT.out] at rd2 ⊢; have RD2 := Lib.hid rd2; have GR2 := Lib.hid gr2; obtain ⟨a0, y0⟩ := grown_cells (j := 0) hgs rfl gr2 rfl; obtain ⟨a1, y1⟩ := grown_cells (j := 1) hgs rfl gr2 rfl; obtain ⟨a2, y2⟩ := grown_cells (j := 2) hgs rfl gr2 rfl; obtain ⟨_, _, _, c0, c1, z0, z1, _⟩ := rd2; clear gr2))
        refine bodyPost_ret (by simp [results, Try.results125, go_sem, a0, a1, a2]; try rfl) rfl ?_
        rw [HF.out, if_neg he]
        exact ⟨rfl, (((RD2.out.stored hg hgs 0 _).stored hg hgs 1 _).stored hg hgs 2 _), grown_set (grown_set (grown_set (grown_new GR2.out) (Nat.le_refl _)) (Nat.le_refl _)) (Nat.le_refl _)⟩

/-! ### Decode -/
theorem nextF_ok {rest : List UInt8} {m : Nat} (h : m ≤ rest.length) : nextF rest 0 m = (rest.take m, rest.drop m, 0) := by unfold nextF; rw [if_pos rfl, if_neg (by omega)]
theorem nextF_short {rest : List UInt8} {m : Nat} (h : rest.length < m) : nextF rest 0 m = ([], rest, 2) := by unfold nextF; rw [if_pos rfl, if_pos h]
theorem nextF_bad {rest : List UInt8} {m : Nat} {e : Int} (h : e ≠ 0) : nextF rest e m = ([], rest, e) := by unfold nextF; rw [if_neg h]
theorem takeF_ok {rest : List UInt8} {m : Nat} (h : m ≤ rest.length) : takeF rest 0 m = (numB (rest.take m), rest.drop m, 0) := by unfold takeF; rw [nextF_ok h]
theorem takeF_short {rest : List UInt8} {m : Nat} (h : rest.length < m) : takeF rest 0 m = (0, rest, 2) := by unfold takeF; rw [nextF_short h]; rfl
theorem takeF_bad {rest : List UInt8} {m : Nat} {e : Int} (h : e ≠ 0) : takeF rest e m = (0, rest, e) := by unfold takeF; rw [nextF_bad h]; rfl
theorem mostF_bad {rest : List UInt8} {k : Nat} {e : Int} (h : e ≠ 0) : mostF rest e k = (0, rest, e) := by unfold mostF; rw [takeF_bad h, if_neg (by simp)]
theorem mostF_short {rest : List UInt8} {k : Nat} (h : rest.length < 2) : mostF rest 0 k = (0, rest, 2) := by unfold mostF; rw [takeF_short h, if_neg (by simp)]
theorem mostF_ok {rest : List UInt8} {k : Nat} (h : 2 ≤ rest.length) : mostF rest 0 k = if k < numB (rest.take 2) then (0, rest.drop 2, 3) else (numB (rest.take 2), rest.drop 2, 0) := by unfold mostF; rw [takeF_ok h]

theorem numB_one (k : UInt8) : numB [k] = k.toNat := by simp [numB]

/-- What the reader's field is, by the document's. -/
theorem fieldF_dec (rest : List UInt8) : match decF rest with
    | .error e => e ≠ 0 ∧ (fieldF rest 0).2.2 = e
    | .ok (f, r) => fieldF rest 0 = (f, r, 0) := by
  cases rest with
  | nil => simp [decF, fieldF, takeF_short]
  | cons k t =>
    have h1 : takeF (k :: t) 0 1 = (k.toNat, t, 0) := by rw [takeF_ok (by simp)]; simp [numB_one]
    have e1 : (k = 1) ↔ k.toNat = 1 := ⟨fun h => by rw [h]; rfl, fun h => UInt8.toNat_inj.1 (by rw [h]; rfl)⟩
    have e2 : (k = 2) ↔ k.toNat = 2 := ⟨fun h => by rw [h]; rfl, fun h => UInt8.toNat_inj.1 (by rw [h]; rfl)⟩
    by_cases hk1 : k.toNat = 1
    · have hk := e1.2 hk1
      by_cases hl : t.length < 8
      · simp only [decF, if_pos hk, if_pos hl, fieldF, h1, hk1, if_true]
        rw [takeF_short hl]
        simp
      · simp only [decF, if_pos hk, if_neg hl, fieldF, h1, hk1, if_true]
        rw [takeF_ok (by omega)]
    · have hk : ¬ k = 1 := fun h => hk1 (e1.1 h)
      by_cases hk2 : k.toNat = 2
      · have hkk := e2.2 hk2
        simp only [decF, if_neg hk, if_pos hkk, fieldF, h1, hk2]
        by_cases hl : t.length < 2
        · rw [if_pos hl, mostF_short hl]
          simp [nextF_bad]
        · rw [if_neg hl, mostF_ok (by omega)]
          by_cases hn : 4096 < numB (t.take 2)
          · rw [if_pos hn, if_pos hn]
            simp [nextF_bad]
          · rw [if_neg hn, if_neg hn]
            by_cases hs : (t.drop 2).length < numB (t.take 2)
            · rw [if_pos hs]
              dsimp only
              rw [nextF_short hs]
              simp
            · rw [if_neg hs]
              dsimp only
              rw [nextF_ok (by omega)]
              simp
      · have hkk : ¬ k = 2 := fun h => hk2 (e2.1 h)
        simp only [decF, if_neg hk, if_neg hkk, fieldF, h1, if_neg hk1, if_neg hk2]
        simp
end Go.Proofs.Ythhpddiicnjmmaa
