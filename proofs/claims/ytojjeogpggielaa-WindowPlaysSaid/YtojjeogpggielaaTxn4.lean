/- Contract: which transactions may be: the reference's May. -/
import Derived.Test.YtojjeogpggielaaTxn3
set_option linter.unusedVariables false
namespace Go.Proofs.Ytojjeogpggielaa
open Go.RowKit

set_option maxRecDepth 100000 in
set_option maxHeartbeats 8000000 in
theorem refmay_any (t : Txn) (A : Option Addr) (n c : Nat) (A2 : Option Addr) (n2 c2 : Nat) (w : World) (h : IsSl chgRep w (· < w.heap.size) A n t.changes) (h2 : IsSl strRep w (· < w.heap.size) A2 n2 t.signals) :
    Calls Try.prog 48 #[.agg #[.int .i64 t.lsn, .int .i64 t.kind, .slice A n c, .slice A2 n2 c2, .int .i64 t.mark]] w fun e w' => e = .returned (.bool (mayTxn t)) ∧ Below w.heap.size w w' := by
  have HL := Lib.hid h.len
  have HL2 := Lib.hid h2.len
  by_cases hlo : t.lsn < 1
  · have HM := Lib.hid (mayTxn_lo hlo)
    have hb1 : decide (t.lsn < 1) = true := decide_eq_true hlo
    clear h h2
    obtain ⟨tl, tk, l1, l2, tm⟩ := t
    dsimp only at hlo hb1 ⊢
    go_enter Try.func48, Try.ntmps48
    go_wp2
    go_ret
    rw [HM.out]
    exact ⟨rfl, (Below.refl _ _).alloc (Nat.le_refl _) _⟩
  · have hb1 : decide (t.lsn < 1) = false := decide_eq_false hlo
    by_cases hhi : 1099511627776 < t.lsn
    · have HM := Lib.hid (mayTxn_hi hhi)
      have hb2 : decide (1099511627776 < t.lsn) = true := decide_eq_true hhi
      clear h h2
      obtain ⟨tl, tk, l1, l2, tm⟩ := t
      dsimp only at hlo hb1 hhi hb2 ⊢
      go_enter Try.func48, Try.ntmps48
      go_wp2
      go_ret
      rw [HM.out]
      exact ⟨rfl, (Below.refl _ _).alloc (Nat.le_refl _) _⟩
    · have hb2 : decide (1099511627776 < t.lsn) = false := decide_eq_false hhi
      by_cases hk1 : t.kind = 1
      · have HM := Lib.hid (mayTxn_cli (by omega) (by omega) hk1)
        have H := Lib.hid h
        have H2 := Lib.hid h2
        clear h h2
        obtain ⟨tl, tk, l1, l2, tm⟩ := t
        dsimp only at hlo hb1 hhi hb2 hk1 ⊢
        subst hk1
        have hcases : ¬ tm = 0 ∨ (tm = 0 ∧ 16 < n) ∨ (tm = 0 ∧ n ≤ 16 ∧ 2 < n2) ∨ (tm = 0 ∧ n ≤ 16 ∧ n2 ≤ 2) := by omega
        rcases hcases with h3 | ⟨rfl, h3⟩ | ⟨rfl, h3, h4⟩ | ⟨rfl, h3, h4⟩
        · have HF := Lib.hid (show mayCli ⟨tl, 1, l1, l2, tm⟩ = false by unfold mayCli; rw [decide_eq_false (by rintro ⟨h, _⟩; exact h3 h)]; rfl)
          have hb : (tm == 0) = false := by simpa using h3
          have hb3 : (tm != 0) = true := by simpa using h3
          clear h3
          go_enter Try.func48, Try.ntmps48
          go_wp2
          go_ret
          rw [HM.out, HF.out]
          exact ⟨rfl, (Below.refl _ _).alloc (Nat.le_refl _) _⟩
        · have HF := Lib.hid (show mayCli ⟨tl, 1, l1, l2, 0⟩ = false by unfold mayCli; rw [decide_eq_false (by rintro ⟨_, h, _⟩; have := HL.out; dsimp only at h this; omega)]; rfl)
          have hb : decide (16 < (n : Int)) = true := by simp; omega
          go_enter Try.func48, Try.ntmps48
          go_wp2
          go_ret
          rw [HM.out, HF.out]
          exact ⟨rfl, (Below.refl _ _).alloc (Nat.le_refl _) _⟩
        · have HF := Lib.hid (show mayCli ⟨tl, 1, l1, l2, 0⟩ = false by unfold mayCli; rw [decide_eq_false (by rintro ⟨_, _, h⟩; have := HL2.out; dsimp only at h this; omega)]; rfl)
          have hb : decide (16 < (n : Int)) = false := by simp; omega
          have hb3 : decide (2 < (n2 : Int)) = true := by simp; omega
          go_enter Try.func48, Try.ntmps48
          go_wp2
          go_ret
          rw [HM.out, HF.out]
          exact ⟨rfl, (Below.refl _ _).alloc (Nat.le_refl _) _⟩
        · have HF := Lib.hid (show mayCli ⟨tl, 1, l1, l2, 0⟩ = (l1.all (mayChg · 8) && l2.all (fun s => decide (s.size ≤ 40))) by
            unfold mayCli; rw [decide_eq_true (by refine ⟨rfl, ?_, ?_⟩ <;> (have := HL.out; have := HL2.out; dsimp only at *; omega))]; rfl)
          have hb : decide (16 < (n : Int)) = false := by simp; omega
          have hb3 : decide (2 < (n2 : Int)) = false := by simp; omega
          go_enter Try.func48, Try.ntmps48
          go_wp2
          obtain ⟨W, hW⟩ : ∃ W, W = w.alloc (.cells #[.int .i64 tl, .int .i64 1, .slice A n c, .slice A2 n2 c2, .int .i64 0] 68) := ⟨_, rfl⟩
          have d2 : W.cell? ⟨w.heap.size, 2, none⟩ = some (.slice A n c) := by rw [hW]; exact World.cell?_alloc_at _ _ _ _ rfl
          have d3 : W.cell? ⟨w.heap.size, 3, none⟩ = some (.slice A2 n2 c2) := by rw [hW]; exact World.cell?_alloc_at _ _ _ _ rfl
          have hgW : w.heap.size < W.heap.size := by rw [hW]; simp
          have belW : Below w.heap.size w W := by rw [hW]; exact (Below.refl _ _).alloc (Nat.le_refl _) _
          rw [← hW]
          clear hW
          go_loopw [3] (fun i wr => ∃ k : Nat, i = .int .i64 k ∧ k ≤ n ∧ (l1.take k).all (mayChg · 8) = true ∧ Below W.heap.size W wr) (fun i _ => n - (intOf i).toNat)
          case atStart => exact ⟨0, rfl, Nat.zero_le _, rfl, Below.refl _ _⟩
          case round =>
            obtain ⟨k, rfl, hk, hall, hbel⟩ := hrel
            have HA := Lib.hid hall
            have hs := hbel.size
            have f2 : wr.cell? ⟨w.heap.size, 2, none⟩ = some (.slice A n c) := (hbel.cell (p := ⟨w.heap.size, 2, none⟩) hgW).trans d2
            clear hall
            by_cases hlt : k < n
            · obtain ⟨b, off, x, rfl, hbS, hx, hwf, c0, c1, c3, c4⟩ := H.out.chg hlt (fun p hp => (hbel.cell (Nat.lt_trans hp hgW)).trans (belW.cell hp))
              have HX := Lib.hid hx
              clear hx hwf
              obtain ⟨xt, xk, xg, xv⟩ := x
              dsimp only at c0 c1 c3 c4
              cases hm : mayChg ⟨xt, xk, xg, xv⟩ 8
              · have HG := Lib.hid hm
                clear hm
                go_wp2_with (first
                  | (go_at_call 51; (with_reducible refine (refmayChange_any ⟨xt, xk, xg, xv⟩ 8 _).mono ?_); rintro e w3 ⟨rfl, bel3⟩; rw [HG.out]; have BEL3 := Lib.hid bel3; clear bel3)
                  | fail)
                go_ret
                rw [HM.out, HF.out, all_stop HX.out HG.out]
                exact ⟨rfl, belW.trans ((hbel.trans (BEL3.out.mono hs)).mono belW.size)⟩
              · have HG := Lib.hid hm
                clear hm
                go_wp2_with (first
                  | (go_at_call 51; (with_reducible refine (refmayChange_any ⟨xt, xk, xg, xv⟩ 8 _).mono ?_); rintro e w3 ⟨rfl, bel3⟩; rw [HG.out]; have BEL3 := Lib.hid bel3; clear bel3)
                  | fail)
                go_roundw
                case rel => exact ⟨k + 1, by go_num, by omega, all_step HX.out HG.out HA.out, hbel.trans (BEL3.out.mono hs)⟩
                case measure => simp [intOf]; omega
            · have HA2 := Lib.hid (all_done (by have := HL.out; omega) HA.out)
              have e3 : wr.cell? ⟨w.heap.size, 3, none⟩ = some (.slice A2 n2 c2) := (hbel.cell (p := ⟨w.heap.size, 3, none⟩) hgW).trans d3
              have belR := belW.trans (hbel.mono belW.size)
              clear HA
              go_wp2
              go_loop [4] (fun i => ∃ k : Nat, i = .int .i64 k ∧ k ≤ n2 ∧ (l2.take k).all (fun s => decide (s.size ≤ 40)) = true) (fun i => n2 - (intOf i).toNat)
              case atStart => exact ⟨0, rfl, Nat.zero_le _, rfl⟩
              case round =>
                obtain ⟨k2, rfl, hk2, hall⟩ := hrel
                have HA := Lib.hid hall
                clear hall
                by_cases hlt2 : k2 < n2
                · obtain ⟨b, off, x, rfl, hbS, hx, hxs, c0⟩ := H2.out.str hlt2 (fun p hp => belR.cell hp)
                  have HX := Lib.hid hx
                  clear hx
                  by_cases hsz : x.size ≤ 40
                  · have hb4 : decide (40 < (x.size : Int)) = false := by simp; omega
                    go_wp2
                    go_round
                    case rel => exact ⟨k2 + 1, by go_num, by omega, all_step HX.out (decide_eq_true hsz) HA.out⟩
                    case measure => simp [intOf]; omega
                  · have hb4 : decide (40 < (x.size : Int)) = true := by simp; omega
                    go_wp2
                    go_ret
                    rw [HM.out, HF.out, HA2.out, all_stop HX.out (decide_eq_false hsz)]
                    exact ⟨rfl, belR⟩
                · have HA3 := Lib.hid (all_done (by have := HL2.out; omega) HA.out)
                  clear HA
                  go_wp2
                  go_ret
                  rw [HM.out, HF.out, HA2.out, HA3.out]
                  exact ⟨rfl, belR⟩
      · have hk1b : (t.kind == 1) = false := by simpa using hk1
        by_cases hk2 : t.kind = 2 ∨ t.kind = 3
        · have HM := Lib.hid (mayTxn_mark (by omega) (by omega) hk2)
          have hc : t.mark < 1 ∨ (1 ≤ t.mark ∧ 1099511627776 < t.mark) ∨ (1 ≤ t.mark ∧ t.mark ≤ 1099511627776 ∧ ¬ n = 0) ∨ (1 ≤ t.mark ∧ t.mark ≤ 1099511627776 ∧ n = 0 ∧ ¬ n2 = 0) ∨ (1 ≤ t.mark ∧ t.mark ≤ 1099511627776 ∧ n = 0 ∧ n2 = 0) := by omega
          clear h h2
          obtain ⟨tl, tk, l1, l2, tm⟩ := t
          dsimp only at hlo hb1 hhi hb2 hk1 hk1b hk2 hc ⊢
          clear hk1 hk1b
          rcases hk2 with rfl | rfl
          all_goals
            rcases hc with hc1 | ⟨hc1, hc2⟩ | ⟨hc1, hc2, hc3⟩ | ⟨hc1, hc2, hc3, hc4⟩ | ⟨hc1, hc2, hc3, hc4⟩
            · have HF := Lib.hid (show decide (1 ≤ tm ∧ tm ≤ 1099511627776 ∧ l1.length = 0 ∧ l2.length = 0) = false from decide_eq_false (by omega))
              have hd1 : decide (1 ≤ tm) = false := decide_eq_false (by omega)
              go_enter Try.func48, Try.ntmps48
              go_wp2
              go_ret
              rw [HM.out, HF.out]
              exact ⟨rfl, (Below.refl _ _).alloc (Nat.le_refl _) _⟩
            · have HF := Lib.hid (show decide (1 ≤ tm ∧ tm ≤ 1099511627776 ∧ l1.length = 0 ∧ l2.length = 0) = false from decide_eq_false (by omega))
              have hd1 : decide (1 ≤ tm) = true := decide_eq_true (by omega)
              have hd2 : decide (tm ≤ 1099511627776) = false := decide_eq_false (by omega)
              go_enter Try.func48, Try.ntmps48
              go_wp2
              go_ret
              rw [HM.out, HF.out]
              exact ⟨rfl, (Below.refl _ _).alloc (Nat.le_refl _) _⟩
            · have HF := Lib.hid (show decide (1 ≤ tm ∧ tm ≤ 1099511627776 ∧ l1.length = 0 ∧ l2.length = 0) = false from decide_eq_false (by have := HL.out; dsimp only at this; omega))
              have hd1 : decide (1 ≤ tm) = true := decide_eq_true (by omega)
              have hd2 : decide (tm ≤ 1099511627776) = true := decide_eq_true (by omega)
              have hd3 : ((n : Int) == 0) = false := by simp; omega
              go_enter Try.func48, Try.ntmps48
              go_wp2
              go_ret
              rw [HM.out, HF.out]
              exact ⟨rfl, (Below.refl _ _).alloc (Nat.le_refl _) _⟩
            · have HF := Lib.hid (show decide (1 ≤ tm ∧ tm ≤ 1099511627776 ∧ l1.length = 0 ∧ l2.length = 0) = false from decide_eq_false (by have := HL2.out; dsimp only at this; omega))
              have hd1 : decide (1 ≤ tm) = true := decide_eq_true (by omega)
              have hd2 : decide (tm ≤ 1099511627776) = true := decide_eq_true (by omega)
              have hd4 : ((n2 : Int) == 0) = false := by simp; omega
              subst hc3
              go_enter Try.func48, Try.ntmps48
              go_wp2
              go_ret
              rw [HM.out, HF.out]
              exact ⟨rfl, (Below.refl _ _).alloc (Nat.le_refl _) _⟩
            · have HF := Lib.hid (show decide (1 ≤ tm ∧ tm ≤ 1099511627776 ∧ l1.length = 0 ∧ l2.length = 0) = true from decide_eq_true (by have := HL.out; have := HL2.out; dsimp only at *; omega))
              have hd1 : decide (1 ≤ tm) = true := decide_eq_true (by omega)
              have hd2 : decide (tm ≤ 1099511627776) = true := decide_eq_true (by omega)
              subst hc3 hc4
              go_enter Try.func48, Try.ntmps48
              go_wp2
              go_ret
              rw [HM.out, HF.out]
              exact ⟨rfl, (Below.refl _ _).alloc (Nat.le_refl _) _⟩
        · have HM := Lib.hid (mayTxn_other hk1 (fun h => hk2 (.inl h)) (fun h => hk2 (.inr h)))
          have hk2b : (t.kind == 2) = false := by simp; omega
          have hk3b : (t.kind == 3) = false := by simp; omega
          clear h h2 hk1 hk2
          obtain ⟨tl, tk, l1, l2, tm⟩ := t
          dsimp only at hlo hb1 hhi hb2 hk1b hk2b hk3b ⊢
          go_enter Try.func48, Try.ntmps48
          go_wp2
          go_ret
          rw [HM.out]
          exact ⟨rfl, (Below.refl _ _).alloc (Nat.le_refl _) _⟩

end Go.Proofs.Ytojjeogpggielaa
