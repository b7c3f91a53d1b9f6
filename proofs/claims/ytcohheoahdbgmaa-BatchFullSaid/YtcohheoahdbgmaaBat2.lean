/- Contracts: which items may be: batch's and the reference's. Written by gen_bat2.py. -/
import Derived.Test.YtcohheoahdbgmaaBatL
import Derived.Deep.RegionHeld3
set_option linter.unusedVariables false
set_option linter.unusedSimpArgs false
namespace Go.Proofs.Ytcohheoahdbgmaa
open Go.RowKit

theorem IsSl.opr {w w' : World} {B n k : Nat} {A : Option Addr} {l : List Opr} (h : IsSl oprRep w (· < B) A n l) (hk : k < n) (hw : ∀ p : Addr, p.block < B → w'.cell? p = w.cell? p) :
    ∃ b off x, A = some ⟨b, off, none⟩ ∧ b < B ∧ l[k]? = some x ∧ x.wf ∧ w'.cell? ⟨b, off + k * 5, none⟩ = some (.int .i64 x.lsn) ∧ w'.cell? ⟨b, off + k * 5 + 1, none⟩ = some (.int .i64 x.table) ∧ w'.cell? ⟨b, off + k * 5 + 2, none⟩ = some (.int .i64 x.key) ∧ w'.cell? ⟨b, off + k * 5 + 3, none⟩ = some (.bool x.gone) ∧ w'.cell? ⟨b, off + k * 5 + 4, none⟩ = some (.string x.val) := by
  obtain ⟨b, off, x, cs, rfl, hb, hx, ⟨rfl, hw2⟩, hc⟩ := h.at_ hk
  exact ⟨b, off, x, rfl, hb, hx, hw2, (hw _ hb).trans (hc 0 _ rfl), (hw _ hb).trans (hc 1 _ rfl), (hw _ hb).trans (hc 2 _ rfl), (hw _ hb).trans (hc 3 _ rfl), (hw _ hb).trans (hc 4 _ rfl)⟩
theorem IsSl.note {w w' : World} {B n k : Nat} {A : Option Addr} {l : List Note} (h : IsSl noteRep w (· < B) A n l) (hk : k < n) (hw : ∀ p : Addr, p.block < B → w'.cell? p = w.cell? p) :
    ∃ b off x, A = some ⟨b, off, none⟩ ∧ b < B ∧ l[k]? = some x ∧ x.wf ∧ w'.cell? ⟨b, off + k * 7, none⟩ = some (.int .i64 x.kind) ∧ w'.cell? ⟨b, off + k * 7 + 1, none⟩ = some (.int .i64 x.id) ∧ w'.cell? ⟨b, off + k * 7 + 2, none⟩ = some (.int .i64 x.table) ∧ w'.cell? ⟨b, off + k * 7 + 3, none⟩ = some (.int .i64 x.weight) ∧ w'.cell? ⟨b, off + k * 7 + 4, none⟩ = some (.int .i64 x.at_) ∧ w'.cell? ⟨b, off + k * 7 + 5, none⟩ = some (.int .i64 x.cursor) ∧ w'.cell? ⟨b, off + k * 7 + 6, none⟩ = some (.bool x.done) := by
  obtain ⟨b, off, x, cs, rfl, hb, hx, ⟨rfl, hw2⟩, hc⟩ := h.at_ hk
  exact ⟨b, off, x, rfl, hb, hx, hw2, (hw _ hb).trans (hc 0 _ rfl), (hw _ hb).trans (hc 1 _ rfl), (hw _ hb).trans (hc 2 _ rfl), (hw _ hb).trans (hc 3 _ rfl), (hw _ hb).trans (hc 4 _ rfl), (hw _ hb).trans (hc 5 _ rfl), (hw _ hb).trans (hc 6 _ rfl)⟩
theorem IsSl.srcAll {α : Type} {R : Rep α} {w : World} {S T : Nat → Prop} {A : Option Addr} {n : Nat} {l : List α} (hf : Flat R) (h : IsSl R w T A n l) : Src R w S A n l := by
  obtain ⟨h1, xss, h2, h3⟩ := h
  exact ⟨h1, xss, h2.flat hf, h3.weak fun _ _ => trivial⟩
theorem mayOpr_chg {o : Opr} {lsn : Int} (h1 : 1 ≤ o.lsn) (h2 : o.lsn ≤ lsn) : mayOpr o lsn = mayChg ⟨o.table, o.key, o.gone, o.val⟩ 8 := by
  unfold mayOpr mayChg
  simp only [h1, h2, true_and]
theorem mayOpr_out {o : Opr} {lsn : Int} (h : o.lsn < 1 ∨ lsn < o.lsn) : mayOpr o lsn = false := decide_eq_false (by omega)
set_option maxRecDepth 100000 in
set_option maxHeartbeats 16000000 in
theorem batMay_any (x : Item) (A : Option Addr) (n c : Nat) (A2 : Option Addr) (n2 c2 : Nat) (w : World) (h : IsSl oprRep w (· < w.heap.size) A n x.ops) (h2 : IsSl noteRep w (· < w.heap.size) A2 n2 x.notes) (hm1 : n ≤ c) (hm2 : c ≤ maxLen) (hm3 : n2 ≤ c2) (hm4 : c2 ≤ maxLen) :
    Calls Try.prog 20 #[.agg #[.int .i64 x.lsn, .slice A n c, .slice A2 n2 c2]] w fun e w' => e = .returned (.bool (mayItem x)) ∧ Below w.heap.size w w' := by
  obtain ⟨xl, l1, l2⟩ := x
  dsimp only at h h2 ⊢
  have H := Lib.hid h
  have H2 := Lib.hid h2
  have HL := Lib.hid h.len
  have HL2 := Lib.hid h2.len
  have hcases : xl < 1 ∨ (1 ≤ xl ∧ 1099511627776 < xl) ∨ (1 ≤ xl ∧ xl ≤ 1099511627776 ∧ 4096 < n) ∨ (1 ≤ xl ∧ xl ≤ 1099511627776 ∧ n ≤ 4096 ∧ 256 < n2) ∨ (1 ≤ xl ∧ xl ≤ 1099511627776 ∧ n ≤ 4096 ∧ n2 ≤ 256) := by omega
  unfold maxLen at hm2 hm4
  clear h h2
  rcases hcases with h3 | ⟨h3, h4⟩ | ⟨h3, h4, h5⟩ | ⟨h3, h4, h5, h6⟩ | ⟨h3, h4, h5, h6⟩
  · have HM := Lib.hid (show mayItem ⟨xl, l1, l2⟩ = false by unfold mayItem; rw [decide_eq_false (by rintro ⟨e1, e2, e3, e4⟩; have := HL.out; have := HL2.out; dsimp only at e1 e2 e3 e4; omega)]; rfl)
    have hb0 : decide (xl < 1) = true := by simp; omega
    go_enter Try.func20, Try.ntmps20
    go_wp2
    go_ret
    rw [HM.out]
    exact ⟨rfl, (Below.refl _ _).alloc (Nat.le_refl _) _⟩
  · have HM := Lib.hid (show mayItem ⟨xl, l1, l2⟩ = false by unfold mayItem; rw [decide_eq_false (by rintro ⟨e1, e2, e3, e4⟩; have := HL.out; have := HL2.out; dsimp only at e1 e2 e3 e4; omega)]; rfl)
    have hb0 : decide (xl < 1) = false := by simp; omega
    have hb1 : decide (1099511627776 < xl) = true := by simp; omega
    go_enter Try.func20, Try.ntmps20
    go_wp2
    go_ret
    rw [HM.out]
    exact ⟨rfl, (Below.refl _ _).alloc (Nat.le_refl _) _⟩
  · have HM := Lib.hid (show mayItem ⟨xl, l1, l2⟩ = false by unfold mayItem; rw [decide_eq_false (by rintro ⟨e1, e2, e3, e4⟩; have := HL.out; have := HL2.out; dsimp only at e1 e2 e3 e4; omega)]; rfl)
    have hb0 : decide (xl < 1) = false := by simp; omega
    have hb1 : decide (1099511627776 < xl) = false := by simp; omega
    have hb2 : decide (4096 < (n : Int)) = true := by simp; omega
    go_enter Try.func20, Try.ntmps20
    go_wp2
    go_ret
    rw [HM.out]
    exact ⟨rfl, (Below.refl _ _).alloc (Nat.le_refl _) _⟩
  · have HM := Lib.hid (show mayItem ⟨xl, l1, l2⟩ = false by unfold mayItem; rw [decide_eq_false (by rintro ⟨e1, e2, e3, e4⟩; have := HL.out; have := HL2.out; dsimp only at e1 e2 e3 e4; omega)]; rfl)
    have hb0 : decide (xl < 1) = false := by simp; omega
    have hb1 : decide (1099511627776 < xl) = false := by simp; omega
    have hb2 : decide (4096 < (n : Int)) = false := by simp; omega
    have hb3 : decide (256 < (n2 : Int)) = true := by simp; omega
    go_enter Try.func20, Try.ntmps20
    go_wp2
    go_ret
    rw [HM.out]
    exact ⟨rfl, (Below.refl _ _).alloc (Nat.le_refl _) _⟩
  · have HM := Lib.hid (show mayItem ⟨xl, l1, l2⟩ = (l1.all (mayOpr · xl) && l2.all (mayNot · xl)) by
      unfold mayItem; rw [decide_eq_true (by have := HL.out; have := HL2.out; dsimp only; omega)]; rfl)
    have hb0 : decide (xl < 1) = false := by simp; omega
    have hb1 : decide (1099511627776 < xl) = false := by simp; omega
    have hb2 : decide (4096 < (n : Int)) = false := by simp; omega
    have hb3 : decide (256 < (n2 : Int)) = false := by simp; omega
    go_enter Try.func20, Try.ntmps20
    go_wp2
    obtain ⟨W, hW⟩ : ∃ W, W = w.alloc (.cells #[.int .i64 xl, .slice A n c, .slice A2 n2 c2] 25) := ⟨_, rfl⟩
    have d0 : W.cell? ⟨w.heap.size, 0, none⟩ = some (.int .i64 xl) := by rw [hW]; exact World.cell?_alloc_at _ _ _ _ rfl
    have d1 : W.cell? ⟨w.heap.size, 1, none⟩ = some (.slice A n c) := by rw [hW]; exact World.cell?_alloc_at _ _ _ _ rfl
    have d2 : W.cell? ⟨w.heap.size, 2, none⟩ = some (.slice A2 n2 c2) := by rw [hW]; exact World.cell?_alloc_at _ _ _ _ rfl
    have hgW : w.heap.size < W.heap.size := by rw [hW]; simp
    have belW : Below w.heap.size w W := by rw [hW]; exact (Below.refl _ _).alloc (Nat.le_refl _) _
    rw [← hW]
    clear hW
    go_loopw [30] (fun i wr => ∃ k : Nat, i = .int .i64 k ∧ k ≤ n ∧ (l1.take k).all (mayOpr · xl) = true ∧ Below W.heap.size W wr) (fun i _ => n - (intOf i).toNat)
    case atStart => exact ⟨0, rfl, Nat.zero_le _, rfl, Below.refl _ _⟩
    case round =>
      obtain ⟨k, rfl, hk, hall, hbel⟩ := hrel
      have HA := Lib.hid hall
      have hs := hbel.size
      have hgR0 : w.heap.size < wr.heap.size := Nat.lt_of_lt_of_le hgW hs
      have f0 : wr.cell? ⟨w.heap.size, 0, none⟩ = some (.int .i64 xl) := (hbel.cell (p := ⟨w.heap.size, 0, none⟩) hgW).trans d0
      have f1 : wr.cell? ⟨w.heap.size, 1, none⟩ = some (.slice A n c) := (hbel.cell (p := ⟨w.heap.size, 1, none⟩) hgW).trans d1
      clear hall
      by_cases hlt : k < n
      · obtain ⟨b, off, x, rfl, hbS, hx, hwf, c0, c1, c3, c4, c5⟩ := H.out.opr hlt (fun p hp => (hbel.cell (Nat.lt_trans hp hgW)).trans (belW.cell hp))
        have HX := Lib.hid hx
        have hkn : decide ((k : Int) < (n : Int)) = true := decide_eq_true (by omega)
        have hkm : (k : Int) < (n : Int) := by omega
        clear hx hwf
        obtain ⟨xo, xt, xk, xg, xv⟩ := x
        dsimp only at c0 c1 c3 c4 c5
        cases hm : mayOpr ⟨xo, xt, xk, xg, xv⟩ xl
        · have HF := Lib.hid hm
          clear hm
          go_wp2_with (first
            | (go_at_call 47; (with_reducible refine (mayOp_any ⟨xo, xt, xk, xg, xv⟩ xl _).mono ?_); rintro e w3 ⟨rfl, bel3⟩; rw [HF.out]; have BEL3 := Lib.hid bel3; clear bel3)
            | fail)
          go_ret
          rw [HM.out, all_stop HX.out HF.out]
          exact ⟨rfl, belW.trans ((hbel.trans (((Below.refl _ _).alloc (Nat.le_refl _) _).trans (BEL3.out.mono (by simp)) |>.mono hs)).mono belW.size)⟩
        · have HF := Lib.hid hm
          clear hm
          go_wp2_with (first
            | (go_at_call 47; (with_reducible refine (mayOp_any ⟨xo, xt, xk, xg, xv⟩ xl _).mono ?_); rintro e w3 ⟨rfl, bel3⟩; rw [HF.out]; have BEL3 := Lib.hid bel3; clear bel3)
            | fail)
          go_roundw
          case rel => exact ⟨k + 1, by go_num, by omega, all_step HX.out HF.out HA.out, hbel.trans (((Below.refl _ _).alloc (Nat.le_refl _) _).trans (BEL3.out.mono (by simp)) |>.mono hs)⟩
          case measure => simp [intOf]; omega
      · have HA2 := Lib.hid (all_done (by rw [← HL.out]; omega) HA.out)
        have e0 := f0
        have e2 : wr.cell? ⟨w.heap.size, 2, none⟩ = some (.slice A2 n2 c2) := (hbel.cell (p := ⟨w.heap.size, 2, none⟩) hgW).trans d2
        have belR := belW.trans (hbel.mono belW.size)
        have hgR := Nat.lt_of_lt_of_le hgW hs
        have hkn : decide ((k : Int) < (n : Int)) = false := decide_eq_false (by omega)
        obtain ⟨V, rfl⟩ : ∃ V : World, V = wr := ⟨_, rfl⟩
        clear HA hb0 hb1 hb2 hb3
        go_wp2
        go_loopw [43] (fun i wr => ∃ q : Nat, i = .int .i64 q ∧ q ≤ n2 ∧ (l2.take q).all (mayNot · xl) = true ∧ Below V.heap.size V wr) (fun i _ => n2 - (intOf i).toNat)
        case atStart => exact ⟨0, rfl, Nat.zero_le _, rfl, Below.refl _ _⟩
        case round =>
          obtain ⟨q, rfl, hq, hall, hbel2⟩ := hrel
          have HA := Lib.hid hall
          have hs2 := hbel2.size
          have hgR1 : w.heap.size < wr.heap.size := Nat.lt_of_lt_of_le hgR hs2
          have m0 : wr.cell? ⟨w.heap.size, 0, none⟩ = some (.int .i64 xl) := (hbel2.cell (p := ⟨w.heap.size, 0, none⟩) hgR).trans e0
          have m2 : wr.cell? ⟨w.heap.size, 2, none⟩ = some (.slice A2 n2 c2) := (hbel2.cell (p := ⟨w.heap.size, 2, none⟩) hgR).trans e2
          clear hall
          by_cases hlt2 : q < n2
          · obtain ⟨b, off, x, rfl, hbS, hx, hwf, c0, c1, c3, c4, c5, c6, c7⟩ := H2.out.note hlt2 (fun p hp => (hbel2.cell (Nat.lt_of_lt_of_le hp belR.size)).trans (belR.cell hp))
            have HX := Lib.hid hx
            have hqn : decide ((q : Int) < (n2 : Int)) = true := decide_eq_true (by omega)
            have hqm : (q : Int) < (n2 : Int) := by omega
            clear hx hwf
            obtain ⟨xk, xi, xt, xw, xa, xc, xd⟩ := x
            dsimp only at c0 c1 c3 c4 c5 c6 c7
            cases hm : mayNot ⟨xk, xi, xt, xw, xa, xc, xd⟩ xl
            · have HF := Lib.hid hm
              clear hm
              go_wp2_with (first
                | (go_at_call 48; (with_reducible refine (mayNote_any ⟨xk, xi, xt, xw, xa, xc, xd⟩ xl _).mono ?_); rintro e w3 ⟨rfl, bel3⟩; rw [HF.out]; have BEL3 := Lib.hid bel3; clear bel3)
                | fail)
              go_ret
              rw [HM.out, HA2.out, all_stop HX.out HF.out]
              exact ⟨rfl, belR.trans ((hbel2.trans (((Below.refl _ _).alloc (Nat.le_refl _) _).trans (BEL3.out.mono (by simp)) |>.mono hs2)).mono belR.size)⟩
            · have HF := Lib.hid hm
              clear hm
              go_wp2_with (first
                | (go_at_call 48; (with_reducible refine (mayNote_any ⟨xk, xi, xt, xw, xa, xc, xd⟩ xl _).mono ?_); rintro e w3 ⟨rfl, bel3⟩; rw [HF.out]; have BEL3 := Lib.hid bel3; clear bel3)
                | fail)
              go_roundw
              case rel => exact ⟨q + 1, by go_num, by omega, all_step HX.out HF.out HA.out, (hbel2.trans (((Below.refl _ _).alloc (Nat.le_refl _) _).trans (BEL3.out.mono (by simp)) |>.mono hs2))⟩
              case measure => simp [intOf]; omega
          · have HA3 := Lib.hid (all_done (by rw [← HL2.out]; omega) HA.out)
            have hqn : decide ((q : Int) < (n2 : Int)) = false := decide_eq_false (by omega)
            clear HA
            go_wp2
            go_ret
            rw [HM.out, HA2.out, HA3.out]
            exact ⟨rfl, belR.trans (hbel2.mono belR.size)⟩
set_option maxRecDepth 100000 in
set_option maxHeartbeats 16000000 in
theorem refmayItem_any (x : Item) (A : Option Addr) (n c : Nat) (A2 : Option Addr) (n2 c2 : Nat) (w : World) (h : IsSl oprRep w (· < w.heap.size) A n x.ops) (h2 : IsSl noteRep w (· < w.heap.size) A2 n2 x.notes) (hm1 : n ≤ c) (hm2 : c ≤ maxLen) (hm3 : n2 ≤ c2) (hm4 : c2 ≤ maxLen) :
    Calls Try.prog 21 #[.agg #[.int .i64 x.lsn, .slice A n c, .slice A2 n2 c2]] w fun e w' => e = .returned (.bool (mayItem x)) ∧ Below w.heap.size w w' := by
  obtain ⟨xl, l1, l2⟩ := x
  dsimp only at h h2 ⊢
  have H := Lib.hid h
  have H2 := Lib.hid h2
  have HL := Lib.hid h.len
  have HL2 := Lib.hid h2.len
  have hcases : xl < 1 ∨ (1 ≤ xl ∧ 1099511627776 < xl) ∨ (1 ≤ xl ∧ xl ≤ 1099511627776 ∧ 4096 < n) ∨ (1 ≤ xl ∧ xl ≤ 1099511627776 ∧ n ≤ 4096 ∧ 256 < n2) ∨ (1 ≤ xl ∧ xl ≤ 1099511627776 ∧ n ≤ 4096 ∧ n2 ≤ 256) := by omega
  unfold maxLen at hm2 hm4
  clear h h2
  rcases hcases with h3 | ⟨h3, h4⟩ | ⟨h3, h4, h5⟩ | ⟨h3, h4, h5, h6⟩ | ⟨h3, h4, h5, h6⟩
  · have HM := Lib.hid (show mayItem ⟨xl, l1, l2⟩ = false by unfold mayItem; rw [decide_eq_false (by rintro ⟨e1, e2, e3, e4⟩; have := HL.out; have := HL2.out; dsimp only at e1 e2 e3 e4; omega)]; rfl)
    have hb0 : decide (xl < 1) = true := by simp; omega
    go_enter Try.func21, Try.ntmps21
    go_wp2
    go_ret
    rw [HM.out]
    exact ⟨rfl, (Below.refl _ _).alloc (Nat.le_refl _) _⟩
  · have HM := Lib.hid (show mayItem ⟨xl, l1, l2⟩ = false by unfold mayItem; rw [decide_eq_false (by rintro ⟨e1, e2, e3, e4⟩; have := HL.out; have := HL2.out; dsimp only at e1 e2 e3 e4; omega)]; rfl)
    have hb0 : decide (xl < 1) = false := by simp; omega
    have hb1 : decide (1099511627776 < xl) = true := by simp; omega
    go_enter Try.func21, Try.ntmps21
    go_wp2
    go_ret
    rw [HM.out]
    exact ⟨rfl, (Below.refl _ _).alloc (Nat.le_refl _) _⟩
  · have HM := Lib.hid (show mayItem ⟨xl, l1, l2⟩ = false by unfold mayItem; rw [decide_eq_false (by rintro ⟨e1, e2, e3, e4⟩; have := HL.out; have := HL2.out; dsimp only at e1 e2 e3 e4; omega)]; rfl)
    have hb0 : decide (xl < 1) = false := by simp; omega
    have hb1 : decide (1099511627776 < xl) = false := by simp; omega
    have hb2 : decide (4096 < (n : Int)) = true := by simp; omega
    go_enter Try.func21, Try.ntmps21
    go_wp2
    go_ret
    rw [HM.out]
    exact ⟨rfl, (Below.refl _ _).alloc (Nat.le_refl _) _⟩
  · have HM := Lib.hid (show mayItem ⟨xl, l1, l2⟩ = false by unfold mayItem; rw [decide_eq_false (by rintro ⟨e1, e2, e3, e4⟩; have := HL.out; have := HL2.out; dsimp only at e1 e2 e3 e4; omega)]; rfl)
    have hb0 : decide (xl < 1) = false := by simp; omega
    have hb1 : decide (1099511627776 < xl) = false := by simp; omega
    have hb2 : decide (4096 < (n : Int)) = false := by simp; omega
    have hb3 : decide (256 < (n2 : Int)) = true := by simp; omega
    go_enter Try.func21, Try.ntmps21
    go_wp2
    go_ret
    rw [HM.out]
    exact ⟨rfl, (Below.refl _ _).alloc (Nat.le_refl _) _⟩
  · have HM := Lib.hid (show mayItem ⟨xl, l1, l2⟩ = (l1.all (mayOpr · xl) && l2.all (mayNot · xl)) by
      unfold mayItem; rw [decide_eq_true (by have := HL.out; have := HL2.out; dsimp only; omega)]; rfl)
    have hb0 : decide (xl < 1) = false := by simp; omega
    have hb1 : decide (1099511627776 < xl) = false := by simp; omega
    have hb2 : decide (4096 < (n : Int)) = false := by simp; omega
    have hb3 : decide (256 < (n2 : Int)) = false := by simp; omega
    go_enter Try.func21, Try.ntmps21
    go_wp2
    obtain ⟨W, hW⟩ : ∃ W, W = w.alloc (.cells #[.int .i64 xl, .slice A n c, .slice A2 n2 c2] 25) := ⟨_, rfl⟩
    have d0 : W.cell? ⟨w.heap.size, 0, none⟩ = some (.int .i64 xl) := by rw [hW]; exact World.cell?_alloc_at _ _ _ _ rfl
    have d1 : W.cell? ⟨w.heap.size, 1, none⟩ = some (.slice A n c) := by rw [hW]; exact World.cell?_alloc_at _ _ _ _ rfl
    have d2 : W.cell? ⟨w.heap.size, 2, none⟩ = some (.slice A2 n2 c2) := by rw [hW]; exact World.cell?_alloc_at _ _ _ _ rfl
    have hgW : w.heap.size < W.heap.size := by rw [hW]; simp
    have belW : Below w.heap.size w W := by rw [hW]; exact (Below.refl _ _).alloc (Nat.le_refl _) _
    rw [← hW]
    clear hW
    go_loopw [3] (fun i wr => ∃ k : Nat, i = .int .i64 k ∧ k ≤ n ∧ (l1.take k).all (mayOpr · xl) = true ∧ Below W.heap.size W wr) (fun i _ => n - (intOf i).toNat)
    case atStart => exact ⟨0, rfl, Nat.zero_le _, rfl, Below.refl _ _⟩
    case round =>
      obtain ⟨k, rfl, hk, hall, hbel⟩ := hrel
      have HA := Lib.hid hall
      have hs := hbel.size
      have hgR0 : w.heap.size < wr.heap.size := Nat.lt_of_lt_of_le hgW hs
      have f0 : wr.cell? ⟨w.heap.size, 0, none⟩ = some (.int .i64 xl) := (hbel.cell (p := ⟨w.heap.size, 0, none⟩) hgW).trans d0
      have f1 : wr.cell? ⟨w.heap.size, 1, none⟩ = some (.slice A n c) := (hbel.cell (p := ⟨w.heap.size, 1, none⟩) hgW).trans d1
      clear hall
      by_cases hlt : k < n
      · obtain ⟨b, off, x, rfl, hbS, hx, hwf, c0, c1, c3, c4, c5⟩ := H.out.opr hlt (fun p hp => (hbel.cell (Nat.lt_trans hp hgW)).trans (belW.cell hp))
        have HX := Lib.hid hx
        have hkn : decide ((k : Int) < (n : Int)) = true := decide_eq_true (by omega)
        have hkm : (k : Int) < (n : Int) := by omega
        clear hx hwf
        obtain ⟨xo, xt, xk, xg, xv⟩ := x
        dsimp only at c0 c1 c3 c4 c5
        have hoc : xo < 1 ∨ (1 ≤ xo ∧ xl < xo) ∨ (1 ≤ xo ∧ xo ≤ xl) := by omega
        rcases hoc with g1 | ⟨g1, g2⟩ | ⟨g1, g2⟩
        · have HF := Lib.hid (show mayOpr ⟨xo, xt, xk, xg, xv⟩ xl = false from mayOpr_out (by dsimp only; omega))
          have hc0 : decide (xo < 1) = true := by simp; omega
          go_wp2_with fail
          go_ret
          rw [HM.out, all_stop HX.out HF.out]
          exact ⟨rfl, belW.trans ((hbel.trans (((Below.refl _ _).alloc (Nat.le_refl _) _).mono hs)).mono belW.size)⟩
        · have HF := Lib.hid (show mayOpr ⟨xo, xt, xk, xg, xv⟩ xl = false from mayOpr_out (by dsimp only; omega))
          have hc0 : decide (xo < 1) = false := by simp; omega
          have hc1 : decide (xl < xo) = true := by simp; omega
          go_wp2_with fail
          go_ret
          rw [HM.out, all_stop HX.out HF.out]
          exact ⟨rfl, belW.trans ((hbel.trans (((Below.refl _ _).alloc (Nat.le_refl _) _).mono hs)).mono belW.size)⟩
        · have HQ := Lib.hid (show mayOpr ⟨xo, xt, xk, xg, xv⟩ xl = mayChg ⟨xt, xk, xg, xv⟩ 8 from mayOpr_chg g1 g2)
          have hc0 : decide (xo < 1) = false := by simp; omega
          have hc1 : decide (xl < xo) = false := by simp; omega
          cases hm : mayChg ⟨xt, xk, xg, xv⟩ 8
          · have HF := Lib.hid hm
            clear hm
            go_wp2_with (first
              | (go_at_call 49; (with_reducible refine (refmayChange_any ⟨xt, xk, xg, xv⟩ 8 _).mono ?_); rintro e w3 ⟨rfl, bel3⟩; rw [HF.out]; have BEL3 := Lib.hid bel3; clear bel3)
              | fail)
            go_ret
            rw [HM.out, all_stop HX.out (HQ.out.trans HF.out)]
            exact ⟨rfl, belW.trans ((hbel.trans (((Below.refl _ _).alloc (Nat.le_refl _) _).trans (BEL3.out.mono (by simp)) |>.mono hs)).mono belW.size)⟩
          · have HF := Lib.hid hm
            clear hm
            go_wp2_with (first
              | (go_at_call 49; (with_reducible refine (refmayChange_any ⟨xt, xk, xg, xv⟩ 8 _).mono ?_); rintro e w3 ⟨rfl, bel3⟩; rw [HF.out]; have BEL3 := Lib.hid bel3; clear bel3)
              | fail)
            go_roundw
            case rel => exact ⟨k + 1, by go_num, by omega, all_step HX.out (HQ.out.trans HF.out) HA.out, hbel.trans (((Below.refl _ _).alloc (Nat.le_refl _) _).trans (BEL3.out.mono (by simp)) |>.mono hs)⟩
            case measure => simp [intOf]; omega
      · have HA2 := Lib.hid (all_done (by rw [← HL.out]; omega) HA.out)
        have e0 := f0
        have e2 : wr.cell? ⟨w.heap.size, 2, none⟩ = some (.slice A2 n2 c2) := (hbel.cell (p := ⟨w.heap.size, 2, none⟩) hgW).trans d2
        have belR := belW.trans (hbel.mono belW.size)
        have hgR := Nat.lt_of_lt_of_le hgW hs
        have hkn : decide ((k : Int) < (n : Int)) = false := decide_eq_false (by omega)
        obtain ⟨V, rfl⟩ : ∃ V : World, V = wr := ⟨_, rfl⟩
        clear HA hb0 hb1 hb2 hb3
        go_wp2
        go_loopw [5] (fun i wr => ∃ q : Nat, i = .int .i64 q ∧ q ≤ n2 ∧ (l2.take q).all (mayNot · xl) = true ∧ Below V.heap.size V wr) (fun i _ => n2 - (intOf i).toNat)
        case atStart => exact ⟨0, rfl, Nat.zero_le _, rfl, Below.refl _ _⟩
        case round =>
          obtain ⟨q, rfl, hq, hall, hbel2⟩ := hrel
          have HA := Lib.hid hall
          have hs2 := hbel2.size
          have hgR1 : w.heap.size < wr.heap.size := Nat.lt_of_lt_of_le hgR hs2
          have m0 : wr.cell? ⟨w.heap.size, 0, none⟩ = some (.int .i64 xl) := (hbel2.cell (p := ⟨w.heap.size, 0, none⟩) hgR).trans e0
          have m2 : wr.cell? ⟨w.heap.size, 2, none⟩ = some (.slice A2 n2 c2) := (hbel2.cell (p := ⟨w.heap.size, 2, none⟩) hgR).trans e2
          clear hall
          by_cases hlt2 : q < n2
          · obtain ⟨b, off, x, rfl, hbS, hx, hwf, c0, c1, c3, c4, c5, c6, c7⟩ := H2.out.note hlt2 (fun p hp => (hbel2.cell (Nat.lt_of_lt_of_le hp belR.size)).trans (belR.cell hp))
            have HX := Lib.hid hx
            have hqn : decide ((q : Int) < (n2 : Int)) = true := decide_eq_true (by omega)
            have hqm : (q : Int) < (n2 : Int) := by omega
            clear hx hwf
            obtain ⟨xk, xi, xt, xw, xa, xc, xd⟩ := x
            dsimp only at c0 c1 c3 c4 c5 c6 c7
            cases hm : mayNot ⟨xk, xi, xt, xw, xa, xc, xd⟩ xl
            · have HF := Lib.hid hm
              clear hm
              go_wp2_with fail
              have hbR : b < wr.heap.size := World.block_lt_of_cell? _ _ c0
              have hgR2 : w.heap.size < wr.heap.size := World.block_lt_of_cell? _ _ m0
              go_region_held3 (fun w' => w'.cell? ⟨w.heap.size, 2, none⟩ = some (.slice (some ⟨b, off, none⟩) n2 c2) ∧ w'.cell? ⟨w.heap.size, 0, none⟩ = some (.int .i64 xl) ∧ w'.cell? ⟨b, off + q * 7, none⟩ = some (.int .i64 xk) ∧ w'.cell? ⟨b, off + q * 7 + 1, none⟩ = some (.int .i64 xi) ∧ w'.cell? ⟨b, off + q * 7 + 2, none⟩ = some (.int .i64 xt) ∧ w'.cell? ⟨b, off + q * 7 + 3, none⟩ = some (.int .i64 xw) ∧ w'.cell? ⟨b, off + q * 7 + 4, none⟩ = some (.int .i64 xa) ∧ w'.cell? ⟨b, off + q * 7 + 5, none⟩ = some (.int .i64 xc) ∧ w'.cell? ⟨b, off + q * 7 + 6, none⟩ = some (.bool xd)) (first | exact ⟨m2, m0, c0, c1, c3, c4, c5, c6, c7⟩ | exact HK.out)
                (first
                  | (go_at_call 50; (with_reducible refine (refmayNote_any ⟨xk, xi, xt, xw, xa, xc, xd⟩ xl _).mono ?_); rintro e w3 ⟨rfl, bel3⟩; rw [HF.out]; have BEL3 := Lib.hid (below_of_drew bel3); have HK := Lib.hid (And.intro ((BEL3.out.cell (p := ⟨w.heap.size, 2, none⟩) hgR2).trans m2) (And.intro ((BEL3.out.cell (p := ⟨w.heap.size, 0, none⟩) hgR2).trans m0) (And.intro ((BEL3.out.cell (p := ⟨b, _, none⟩) hbR).trans c0) (And.intro ((BEL3.out.cell (p := ⟨b, _, none⟩) hbR).trans c1) (And.intro ((BEL3.out.cell (p := ⟨b, _, none⟩) hbR).trans c3) (And.intro ((BEL3.out.cell (p := ⟨b, _, none⟩) hbR).trans c4) (And.intro ((BEL3.out.cell (p := ⟨b, _, none⟩) hbR).trans c5) (And.intro ((BEL3.out.cell (p := ⟨b, _, none⟩) hbR).trans c6) ((BEL3.out.cell (p := ⟨b, _, none⟩) hbR).trans c7))))))))); clear bel3)
                  | fail)
              go_wp2_with fail
              go_ret
              rw [HM.out, HA2.out, all_stop HX.out HF.out]
              exact ⟨rfl, belR.trans ((hbel2.trans (BEL3.out.mono hs2)).mono belR.size)⟩
            · have HF := Lib.hid hm
              clear hm
              go_wp2_with fail
              have hbR : b < wr.heap.size := World.block_lt_of_cell? _ _ c0
              have hgR2 : w.heap.size < wr.heap.size := World.block_lt_of_cell? _ _ m0
              go_region_held3 (fun w' => w'.cell? ⟨w.heap.size, 2, none⟩ = some (.slice (some ⟨b, off, none⟩) n2 c2) ∧ w'.cell? ⟨w.heap.size, 0, none⟩ = some (.int .i64 xl) ∧ w'.cell? ⟨b, off + q * 7, none⟩ = some (.int .i64 xk) ∧ w'.cell? ⟨b, off + q * 7 + 1, none⟩ = some (.int .i64 xi) ∧ w'.cell? ⟨b, off + q * 7 + 2, none⟩ = some (.int .i64 xt) ∧ w'.cell? ⟨b, off + q * 7 + 3, none⟩ = some (.int .i64 xw) ∧ w'.cell? ⟨b, off + q * 7 + 4, none⟩ = some (.int .i64 xa) ∧ w'.cell? ⟨b, off + q * 7 + 5, none⟩ = some (.int .i64 xc) ∧ w'.cell? ⟨b, off + q * 7 + 6, none⟩ = some (.bool xd)) (first | exact ⟨m2, m0, c0, c1, c3, c4, c5, c6, c7⟩ | exact HK.out)
                (first
                  | (go_at_call 50; (with_reducible refine (refmayNote_any ⟨xk, xi, xt, xw, xa, xc, xd⟩ xl _).mono ?_); rintro e w3 ⟨rfl, bel3⟩; rw [HF.out]; have BEL3 := Lib.hid (below_of_drew bel3); have HK := Lib.hid (And.intro ((BEL3.out.cell (p := ⟨w.heap.size, 2, none⟩) hgR2).trans m2) (And.intro ((BEL3.out.cell (p := ⟨w.heap.size, 0, none⟩) hgR2).trans m0) (And.intro ((BEL3.out.cell (p := ⟨b, _, none⟩) hbR).trans c0) (And.intro ((BEL3.out.cell (p := ⟨b, _, none⟩) hbR).trans c1) (And.intro ((BEL3.out.cell (p := ⟨b, _, none⟩) hbR).trans c3) (And.intro ((BEL3.out.cell (p := ⟨b, _, none⟩) hbR).trans c4) (And.intro ((BEL3.out.cell (p := ⟨b, _, none⟩) hbR).trans c5) (And.intro ((BEL3.out.cell (p := ⟨b, _, none⟩) hbR).trans c6) ((BEL3.out.cell (p := ⟨b, _, none⟩) hbR).trans c7))))))))); clear bel3)
                  | fail)
              go_wp2_with fail
              go_roundw
              case rel => exact ⟨q + 1, by go_num, by omega, all_step HX.out HF.out HA.out, (hbel2.trans (BEL3.out.mono hs2))⟩
              case measure => simp [intOf]; omega
          · have HA3 := Lib.hid (all_done (by rw [← HL2.out]; omega) HA.out)
            have hqn : decide ((q : Int) < (n2 : Int)) = false := decide_eq_false (by omega)
            clear HA
            go_wp2
            go_ret
            rw [HM.out, HA2.out, HA3.out]
            exact ⟨rfl, belR.trans (hbel2.mono belR.size)⟩
end Go.Proofs.Ytcohheoahdbgmaa
