/- Contracts: which transactions may be: txn.mayClient. -/
import Derived.Test.YtojjeogpggielaaTxn1
set_option linter.unusedVariables false
namespace Go.Proofs.Ytojjeogpggielaa
open Go.RowKit

theorem IsSl.chg {w w' : World} {B n k : Nat} {A : Option Addr} {l : List Chg} (h : IsSl chgRep w (· < B) A n l) (hk : k < n) (hw : ∀ p : Addr, p.block < B → w'.cell? p = w.cell? p) :
    ∃ b off x, A = some ⟨b, off, none⟩ ∧ b < B ∧ l[k]? = some x ∧ x.wf ∧ w'.cell? ⟨b, off + k * 4, none⟩ = some (.int .i64 x.table) ∧ w'.cell? ⟨b, off + k * 4 + 1, none⟩ = some (.int .i64 x.key) ∧ w'.cell? ⟨b, off + k * 4 + 2, none⟩ = some (.bool x.gone) ∧ w'.cell? ⟨b, off + k * 4 + 3, none⟩ = some (.string x.val) := by
  obtain ⟨b, off, x, cs, rfl, hb, hx, ⟨rfl, hw2⟩, hc⟩ := h.at_ hk
  exact ⟨b, off, x, rfl, hb, hx, hw2, (hw _ hb).trans (hc 0 _ rfl), (hw _ hb).trans (hc 1 _ rfl), (hw _ hb).trans (hc 2 _ rfl), (hw _ hb).trans (hc 3 _ rfl)⟩

theorem IsSl.str {w w' : World} {B n k : Nat} {A : Option Addr} {l : List ByteArray} (h : IsSl strRep w (· < B) A n l) (hk : k < n) (hw : ∀ p : Addr, p.block < B → w'.cell? p = w.cell? p) :
    ∃ b off x, A = some ⟨b, off, none⟩ ∧ b < B ∧ l[k]? = some x ∧ x.size ≤ maxLen ∧ w'.cell? ⟨b, off + k, none⟩ = some (.string x) := by
  obtain ⟨b, off, x, cs, rfl, hb, hx, ⟨rfl, hw2⟩, hc⟩ := h.at_ hk
  have h0 := hc 0 _ rfl
  rw [show off + k * strRep.size + 0 = off + k by show off + k * 1 + 0 = _; omega] at h0
  exact ⟨b, off, x, rfl, hb, hx, hw2, (hw _ hb).trans h0⟩

/-- A transaction's cells. -/
def txnV (t : Txn) (A : Option Addr) (n c : Nat) (A2 : Option Addr) (n2 c2 : Nat) : Value := .agg #[.int .i64 t.lsn, .int .i64 t.kind, .slice A n c, .slice A2 n2 c2, .int .i64 t.mark]

theorem all_stop {α : Type} {p : α → Bool} {l : List α} {k : Nat} {x : α} (hx : l[k]? = some x) (hp : p x = false) : l.all p = false := by
  cases h : l.all p
  · rfl
  · have := List.all_eq_true.1 h x (List.mem_of_getElem? hx)
    rw [hp] at this
    cases this

theorem all_step {α : Type} {p : α → Bool} {l : List α} {k : Nat} {x : α} (hx : l[k]? = some x) (hp : p x = true) (h : (l.take k).all p = true) : (l.take (k + 1)).all p = true := by
  rw [take_snoc hx, List.all_append, h]
  simp [hp]

theorem all_done {α : Type} {p : α → Bool} {l : List α} {k : Nat} (hk : l.length ≤ k) (h : (l.take k).all p = true) : l.all p = true := by
  rwa [List.take_of_length_le hk] at h

set_option maxRecDepth 100000 in
set_option maxHeartbeats 4000000 in
theorem mayClient_any (t : Txn) (A : Option Addr) (n c : Nat) (A2 : Option Addr) (n2 c2 : Nat) (w : World) (h : IsSl chgRep w (· < w.heap.size) A n t.changes) (h2 : IsSl strRep w (· < w.heap.size) A2 n2 t.signals) :
    Calls Try.prog 90 #[.agg #[.int .i64 t.lsn, .int .i64 t.kind, .slice A n c, .slice A2 n2 c2, .int .i64 t.mark]] w fun e w' => e = .returned (.bool (mayCli t)) ∧ Below w.heap.size w w' := by
  obtain ⟨tl, tk, l1, l2, tm⟩ := t
  dsimp only at h h2 ⊢
  have H := Lib.hid h
  have H2 := Lib.hid h2
  have HL := Lib.hid h.len
  have HL2 := Lib.hid h2.len
  have hcases : ¬ tm = 0 ∨ (tm = 0 ∧ 16 < n) ∨ (tm = 0 ∧ n ≤ 16 ∧ 2 < n2) ∨ (tm = 0 ∧ n ≤ 16 ∧ n2 ≤ 2) := by omega
  clear h h2
  rcases hcases with h3 | ⟨rfl, h3⟩ | ⟨rfl, h3, h4⟩ | ⟨rfl, h3, h4⟩
  · have HM := Lib.hid (show mayCli ⟨tl, tk, l1, l2, tm⟩ = false by unfold mayCli; rw [decide_eq_false (by rintro ⟨h, _⟩; exact h3 h)]; rfl)
    have hb : (tm == 0) = false := by simpa using h3
    have hb2 : (tm != 0) = true := by simpa using h3
    clear h3
    go_enter Try.func90, Try.ntmps90
    go_wp2
    go_ret
    rw [HM.out]
    exact ⟨rfl, (Below.refl _ _).alloc (Nat.le_refl _) _⟩
  · have HM := Lib.hid (show mayCli ⟨tl, tk, l1, l2, 0⟩ = false by unfold mayCli; rw [decide_eq_false (by rintro ⟨_, h, _⟩; have := HL.out; dsimp only at h; omega)]; rfl)
    have hb : decide (16 < (n : Int)) = true := by simp; omega
    go_enter Try.func90, Try.ntmps90
    go_wp2
    go_ret
    rw [HM.out]
    exact ⟨rfl, (Below.refl _ _).alloc (Nat.le_refl _) _⟩
  · have HM := Lib.hid (show mayCli ⟨tl, tk, l1, l2, 0⟩ = false by unfold mayCli; rw [decide_eq_false (by rintro ⟨_, _, h⟩; have := HL2.out; dsimp only at h; omega)]; rfl)
    have hb : decide (16 < (n : Int)) = false := by simp; omega
    have hb2 : decide (2 < (n2 : Int)) = true := by simp; omega
    go_enter Try.func90, Try.ntmps90
    go_wp2
    go_ret
    rw [HM.out]
    exact ⟨rfl, (Below.refl _ _).alloc (Nat.le_refl _) _⟩
  · have HM := Lib.hid (show mayCli ⟨tl, tk, l1, l2, 0⟩ = (l1.all (mayChg · 8) && l2.all (fun s => decide (s.size ≤ 40))) by
      unfold mayCli; rw [decide_eq_true (by refine ⟨rfl, ?_, ?_⟩ <;> (have := HL.out; have := HL2.out; dsimp only; omega))]; rfl)
    have hb : decide (16 < (n : Int)) = false := by simp; omega
    have hb2 : decide (2 < (n2 : Int)) = false := by simp; omega
    go_enter Try.func90, Try.ntmps90
    go_wp2
    obtain ⟨W, hW⟩ : ∃ W, W = w.alloc (.cells #[.int .i64 tl, .int .i64 tk, .slice A n c, .slice A2 n2 c2, .int .i64 0] 68) := ⟨_, rfl⟩
    have d3 : W.cell? ⟨w.heap.size, 3, none⟩ = some (.slice A2 n2 c2) := by rw [hW]; exact World.cell?_alloc_at _ _ _ _ rfl
    have hgW : w.heap.size < W.heap.size := by rw [hW]; simp
    have belW : Below w.heap.size w W := by rw [hW]; exact (Below.refl _ _).alloc (Nat.le_refl _) _
    rw [← hW]
    clear hW
    go_loopw [25] (fun i wr => ∃ k : Nat, i = .int .i64 k ∧ k ≤ n ∧ (l1.take k).all (mayChg · 8) = true ∧ Below W.heap.size W wr) (fun i _ => n - (intOf i).toNat)
    case atStart => exact ⟨0, rfl, Nat.zero_le _, rfl, Below.refl _ _⟩
    case round =>
      obtain ⟨k, rfl, hk, hall, hbel⟩ := hrel
      have HA := Lib.hid hall
      have hs := hbel.size
      clear hall
      by_cases hlt : k < n
      · obtain ⟨b, off, x, rfl, hbS, hx, hwf, c0, c1, c3, c4⟩ := H.out.chg hlt (fun p hp => (hbel.cell (Nat.lt_trans hp hgW)).trans (belW.cell hp))
        have HX := Lib.hid hx
        clear hx hwf
        obtain ⟨xt, xk, xg, xv⟩ := x
        dsimp only at c0 c1 c3 c4
        cases hm : mayChg ⟨xt, xk, xg, xv⟩ 8
        · have HF := Lib.hid hm
          clear hm
          go_wp2_with (first
            | (go_at_call 50; (with_reducible refine (mayChange_any ⟨xt, xk, xg, xv⟩ 8 _).mono ?_); rintro e w3 ⟨rfl, bel3⟩; rw [HF.out]; have BEL3 := Lib.hid bel3; clear bel3)
            | fail)
          go_ret
          rw [HM.out, all_stop HX.out HF.out]
          exact ⟨rfl, belW.trans ((hbel.trans (((Below.refl _ _).alloc (Nat.le_refl _) _).trans (BEL3.out.mono (by simp)) |>.mono hs)).mono belW.size)⟩
        · have HF := Lib.hid hm
          clear hm
          go_wp2_with (first
            | (go_at_call 50; (with_reducible refine (mayChange_any ⟨xt, xk, xg, xv⟩ 8 _).mono ?_); rintro e w3 ⟨rfl, bel3⟩; rw [HF.out]; have BEL3 := Lib.hid bel3; clear bel3)
            | fail)
          go_roundw
          case rel => exact ⟨k + 1, by go_num, by omega, all_step HX.out HF.out HA.out, hbel.trans (((Below.refl _ _).alloc (Nat.le_refl _) _).trans (BEL3.out.mono (by simp)) |>.mono hs)⟩
          case measure => simp [intOf]; omega
      · have HA2 := Lib.hid (all_done (by rw [← HL.out]; omega) HA.out)
        have e3 : wr.cell? ⟨w.heap.size, 3, none⟩ = some (.slice A2 n2 c2) := (hbel.cell (p := ⟨w.heap.size, 3, none⟩) hgW).trans d3
        have belR := belW.trans (hbel.mono belW.size)
        clear HA
        go_wp2
        go_loop [36] (fun i => ∃ k : Nat, i = .int .i64 k ∧ k ≤ n2 ∧ (l2.take k).all (fun s => decide (s.size ≤ 40)) = true) (fun i => n2 - (intOf i).toNat)
        case atStart => exact ⟨0, rfl, Nat.zero_le _, rfl⟩
        case round =>
          obtain ⟨k2, rfl, hk2, hall⟩ := hrel
          have HA := Lib.hid hall
          clear hall
          by_cases hlt2 : k2 < n2
          · obtain ⟨b, off, x, rfl, hbS, hx, hxs, c0⟩ := H2.out.str hlt2 (fun p hp => belR.cell hp)
            have HX := Lib.hid hx
            clear hx
            by_cases hsz : x.size ≤ 40
            · have hb4 : decide (40 < (x.size : Int)) = false := by simp; omega
              go_wp2
              go_round
              case rel => exact ⟨k2 + 1, by go_num, by omega, all_step HX.out (decide_eq_true hsz) HA.out⟩
              case measure => simp [intOf]; omega
            · have hb4 : decide (40 < (x.size : Int)) = true := by simp; omega
              go_wp2
              go_ret
              rw [HM.out, HA2.out, all_stop HX.out (decide_eq_false hsz)]
              exact ⟨rfl, belR⟩
          · have HA3 := Lib.hid (all_done (by rw [← HL2.out]; omega) HA.out)
            clear HA
            go_wp2
            go_ret
            rw [HM.out, HA2.out, HA3.out]
            exact ⟨rfl, belR⟩
end Go.Proofs.Ytojjeogpggielaa
