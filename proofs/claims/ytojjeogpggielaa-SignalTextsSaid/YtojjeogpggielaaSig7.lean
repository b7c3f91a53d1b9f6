/- The walk of SignalTexts. -/
import Derived.Test.YtojjeogpggielaaSig6
set_option linter.unusedVariables false
namespace Go.Proofs.Ytojjeogpggielaa
open Go.RowKit

theorem text_back (t g : Int) : ∃ a b, sigV (parseS (textL t g)) = .tuple #[.agg #[.int .i64 a, .int .i64 b], .bool (textOk t g)] ∧ (textOk t g = true → a = t ∧ b = g) := by
  cases h : textOk t g
  · refine ⟨0, 0, ?_, by simp⟩
    unfold textL
    rw [h]
    rfl
  · obtain ⟨h1, h2, h3, h4⟩ := of_decide_eq_true (show decide _ = true from h)
    refine ⟨t, g, ?_, fun _ => ⟨rfl, rfl⟩⟩
    unfold textL
    rw [h]
    have ht : t = 0 ∨ t = 1 ∨ t = 2 ∨ t = 3 ∨ t = 4 ∨ t = 5 ∨ t = 6 ∨ t = 7 := by omega
    have hg : g = 1 ∨ g = 2 ∨ g = 3 ∨ g = 4 ∨ g = 5 ∨ g = 6 ∨ g = 7 ∨ g = 8 := by omega
    rcases ht with rfl | rfl | rfl | rfl | rfl | rfl | rfl | rfl
    all_goals
      rcases hg with rfl | rfl | rfl | rfl | rfl | rfl | rfl | rfl
      all_goals rfl

theorem textL_len (t g : Int) : (textL t g).length ≤ 12 := by
  unfold textL
  split <;> simp [wordL]

set_option maxHeartbeats 2000000 in
theorem signalTexts_walk (w : World) (t : Int) (ht : I64 t) (g : Int) (hg : I64 g) :
    Calls Try.prog 8 #[.int .i64 t, .int .i64 g] w fun e w' => e = .returned (.bool true) ∧ Below w.heap.size w w' := by
  unfold I64 at ht hg
  have hm1 := modOf_range t 10 (by omega)
  have hm2 := modOf_range g 11 (by omega)
  go_enter Try.func8, Try.ntmps8
  go_wp2_with (first
    | (go_at_call 15; (with_reducible refine (mod_any _ _ _ (by omega) (by omega)).mono ?_); rintro e w' ⟨rfl, rfl⟩)
    | fail)
  obtain ⟨W, hW⟩ : ∃ W, W = w.alloc (.cells #[Value.int IntKind.i64 t, Value.int IntKind.i64 g, Value.int IntKind.i64 (modOf t 10 - 1), Value.int IntKind.i64 (modOf g 11 - 1)] 77) := ⟨_, rfl⟩
  have hX : ∀ p : Nat, p < 2 → ∃ a b : Int, W.cell? ⟨w.heap.size, p * 2, none⟩ = some (.int .i64 a) ∧ W.cell? ⟨w.heap.size, p * 2 + 1, none⟩ = some (.int .i64 b) := by
    intro p hp
    rw [hW]
    have : p = 0 ∨ p = 1 := by omega
    rcases this with rfl | rfl
    all_goals exact ⟨_, _, World.cell?_alloc_at _ _ _ _ rfl, World.cell?_alloc_at _ _ _ _ rfl⟩
  have hgW : w.heap.size < W.heap.size := by rw [hW]; simp
  have BELW := Lib.hid (show Below w.heap.size w W by rw [hW]; exact (Below.refl _ _).alloc (Nat.le_refl _) _)
  obtain ⟨g0, hg0⟩ : ∃ g0, g0 = w.heap.size := ⟨_, rfl⟩
  rw [← hg0] at hX hgW
  rw [← hW, ← hg0]
  clear hW hg0 hm1 hm2
  go_loopw [6] (fun i wr => ∃ p : Nat, i = .int .i64 p ∧ p ≤ 2 ∧ Below W.heap.size W wr) (fun i _ => 2 - (intOf i).toNat)
  case atStart => exact ⟨0, rfl, by omega, Below.refl _ _⟩
  case round =>
    obtain ⟨p, rfl, hp, hbel⟩ := hrel
    have hs := hbel.size
    by_cases hlt : p < 2
    · obtain ⟨a, b, ha, hb⟩ := hX p hlt
      have ha0 : wr.cell? ⟨g0, p * 2, none⟩ = some (.int .i64 a) := (hbel.cell (p := ⟨g0, p * 2, none⟩) hgW).trans ha
      have hb0 : wr.cell? ⟨g0, p * 2 + 1, none⟩ = some (.int .i64 b) := (hbel.cell (p := ⟨g0, p * 2 + 1, none⟩) hgW).trans hb
      have HX := Lib.hid hX
      obtain ⟨a', b', hv, hv2⟩ := text_back a b
      have HV := Lib.hid hv
      have HL := Lib.hid (textL_len a b)
      clear hX hv ha hb
      have hgs : g0 < wr.heap.size := Nat.lt_of_lt_of_le hgW hs
      have hss : (⟨(textL a b).toArray⟩ : ByteArray).size ≤ maxLen := by rw [Lib.size_eq]; have := HL.out; unfold maxLen; simp; omega
      cases hok : textOk a b
      · rw [hok] at HV
        have HOK := Lib.hid hok
        clear hok hv2
        go_wp2_with (first
          | (go_at_call 41; (with_reducible refine (text_any _ _ _).mono ?_); rintro e w2 ⟨rfl, bel2⟩; rw [HOK.out]; have hs2 := bel2.size; have ha2 := (bel2.cell (p := ⟨g0, p * 2, none⟩) hgs).trans ha0; have hb2 := (bel2.cell (p := ⟨g0, p * 2 + 1, none⟩) hgs).trans hb0; have BEL2 := Lib.hid bel2; clear bel2)
          | (go_at_call 42; (with_reducible refine (reftext_any _ _ _).mono ?_); rintro e w3 ⟨rfl, bel3⟩; rw [HOK.out]; have hs3 : wr.heap.size ≤ w3.heap.size := Nat.le_trans hs2 bel3.size; have BEL3 := Lib.hid (BEL2.out.trans (bel3.mono hs2)); have ha3 := (BEL3.out.cell (p := ⟨g0, p * 2, none⟩) hgs).trans ha0; have hb3 := (BEL3.out.cell (p := ⟨g0, p * 2 + 1, none⟩) hgs).trans hb0; clear bel3 ha2 hb2 hs2)
          | (go_at_call 39; (with_reducible refine (parse_any _ _ hss).mono ?_); rintro e w4 ⟨rfl, bel4⟩; rw [HV.out]; have hs4 : wr.heap.size ≤ w4.heap.size := Nat.le_trans hs3 bel4.size; have BEL4 := Lib.hid (BEL3.out.trans (bel4.mono hs3)); have ha4 := (BEL4.out.cell (p := ⟨g0, p * 2, none⟩) hgs).trans ha0; have hb4 := (BEL4.out.cell (p := ⟨g0, p * 2 + 1, none⟩) hgs).trans hb0; clear bel4 ha3 hb3 hs3)
          | fail)
        have hg4 : g0 < w4.heap.size := Nat.lt_of_lt_of_le hgs hs4
        have ha5 := (World.cell?_of_block (Below.heap_alloc w4 (.cells #[.int .i64 a', .int .i64 b'] 77) g0 hg4)).trans ha4
        have hb5 := (World.cell?_of_block (Below.heap_alloc w4 (.cells #[.int .i64 a', .int .i64 b'] 77) g0 hg4)).trans hb4
        go_quiet (fail)
        go_wp2
        go_roundw
        case rel =>
          refine ⟨p + 1, by go_num, by omega, hbel.trans (Below.mono ?_ hs)⟩
          exact below_drewN (BEL4.out.alloc hs4 _) _
        case measure => simp [intOf]; omega
      · rw [hok] at HV
        have HOK := Lib.hid hok
        obtain ⟨e1, e2⟩ := hv2 hok
        rw [e1, e2] at HV
        clear hok hv2 e1 e2
        go_wp2_with (first
          | (go_at_call 41; (with_reducible refine (text_any _ _ _).mono ?_); rintro e w2 ⟨rfl, bel2⟩; rw [HOK.out]; have hs2 := bel2.size; have ha2 := (bel2.cell (p := ⟨g0, p * 2, none⟩) hgs).trans ha0; have hb2 := (bel2.cell (p := ⟨g0, p * 2 + 1, none⟩) hgs).trans hb0; have BEL2 := Lib.hid bel2; clear bel2)
          | (go_at_call 42; (with_reducible refine (reftext_any _ _ _).mono ?_); rintro e w3 ⟨rfl, bel3⟩; rw [HOK.out]; have hs3 : wr.heap.size ≤ w3.heap.size := Nat.le_trans hs2 bel3.size; have BEL3 := Lib.hid (BEL2.out.trans (bel3.mono hs2)); have ha3 := (BEL3.out.cell (p := ⟨g0, p * 2, none⟩) hgs).trans ha0; have hb3 := (BEL3.out.cell (p := ⟨g0, p * 2 + 1, none⟩) hgs).trans hb0; clear bel3 ha2 hb2 hs2)
          | (go_at_call 39; (with_reducible refine (parse_any _ _ hss).mono ?_); rintro e w4 ⟨rfl, bel4⟩; rw [HV.out]; have hs4 : wr.heap.size ≤ w4.heap.size := Nat.le_trans hs3 bel4.size; have BEL4 := Lib.hid (BEL3.out.trans (bel4.mono hs3)); have ha4 := (BEL4.out.cell (p := ⟨g0, p * 2, none⟩) hgs).trans ha0; have hb4 := (BEL4.out.cell (p := ⟨g0, p * 2 + 1, none⟩) hgs).trans hb0; clear bel4 ha3 hb3 hs3)
          | fail)
        have hg4 : g0 < w4.heap.size := Nat.lt_of_lt_of_le hgs hs4
        have ha5 := (World.cell?_of_block (Below.heap_alloc w4 (.cells #[.int .i64 a, .int .i64 b] 77) g0 hg4)).trans ha4
        have hb5 := (World.cell?_of_block (Below.heap_alloc w4 (.cells #[.int .i64 a, .int .i64 b] 77) g0 hg4)).trans hb4
        go_quiet (fail)
        go_wp2
        go_roundw
        case rel =>
          refine ⟨p + 1, by go_num, by omega, hbel.trans (Below.mono ?_ hs)⟩
          exact below_drewN (BEL4.out.alloc hs4 _) _
        case measure => simp [intOf]; omega
    · go_wp2_with (first
        | (go_at_call 38; (with_reducible refine (awake13_any _).mono ?_); rintro e w5 ⟨rfl, bel5⟩)
        | fail)
      go_ret
      exact ⟨rfl, BELW.out.trans ((hbel.trans (bel5.mono hs)).mono BELW.out.size)⟩
end Go.Proofs.Ytojjeogpggielaa
