/- Contracts of what statements share (qanathelp): Plain, Same; Own, Kept, Spoil. Written by gen_help.py. Contract of the reference's window: High. The reference's High, whole; Item; a window and the reference's beside each other. -/
import Derived.Test.YthhpddiicnjmmaaTypesM
import Derived.Test.YthhpddiicnjmmaaTypesM
import Derived.Test.YthhpddiicnjmmaaHelpL
import Derived.Test.YthhpddiicnjmmaaHelpRow
import Derived.Handy
import Derived.Deep.RegionHeld3
import Derived.Deep.QuietTactic
import Derived.BigQuiet
import Derived.Test.YthhpddiicnjmmaaRefWA
import Derived.Test.YthhpddiicnjmmaaHelpT
import Derived.Test.YthhpddiicnjmmaaWinB
set_option maxRecDepth 100000
namespace Go.Proofs.Ythhpddiicnjmmaa
open Go.RowKit

/-! ### qanat/api.Note -/
set_option maxHeartbeats 1000000 in
theorem plain1_note (x : Note) (w : World) :
    Calls Try.prog 147 #[.agg #[.int .i64 x.kind, .int .i64 x.id, .int .i64 x.table, .int .i64 x.weight, .int .i64 x.at_, .int .i64 x.cursor, .bool x.done], .agg #[.int .i64 x.kind, .int .i64 x.id, .int .i64 x.table, .int .i64 x.weight, .int .i64 x.at_, .int .i64 x.cursor, .bool x.done]] w fun e w' => e = .returned (.bool true) ∧ Below w.heap.size w w' := by
  go_enter Try.func147, Try.ntmps147
  go_wp2
  go_ret
  first
    | exact ⟨rfl, Below.refl _ _⟩
    | exact ⟨by simp, Below.refl _ _⟩
    | exact ⟨rfl, ((Below.refl _ _).alloc (Nat.le_refl _) _).alloc (by simp) _⟩
    | exact ⟨by simp, ((Below.refl _ _).alloc (Nat.le_refl _) _).alloc (by simp) _⟩

set_option maxHeartbeats 2000000 in
theorem same_note (A A2 : Option Addr) (m c c2 : Nat) (l : List Note) (w : World) (h : IsSl noteRep w (· < w.heap.size) A m l) (h2 : IsSl noteRep w (· < w.heap.size) A2 m l) (hn : m ≤ 281474976710656) :
    Calls Try.prog 146 #[.slice A m c, .slice A2 m c2, .func (.func 147) #[] #[]] w fun e w' => e = .returned (.bool true) ∧ Below w.heap.size w w' := by
  go_enter Try.func146, Try.ntmps146
  go_wp2_with fail
  go_loopw [7] (fun i wr => ∃ p : Nat, i = .int .i64 p ∧ p ≤ m ∧ Below w.heap.size w wr) (fun i _ => m - (intOf i).toNat)
  case atStart => exact ⟨0, rfl, Nat.zero_le _, Below.refl _ _⟩
  case round =>
    obtain ⟨p, rfl, hp, hbel⟩ := hrel
    obtain ⟨wo, rfl⟩ : ∃ wo : World, wo = wr := ⟨_, rfl⟩
    by_cases hlt : p < m
    · obtain ⟨b, off, x, cs, rfl, hbS, hx, ⟨rfl, hwf⟩, hc⟩ := h.at_ hlt
      obtain ⟨b2, off2, x2, cs2, rfl, hbS2, hx2, ⟨rfl, hwf2⟩, hc2⟩ := h2.at_ hlt
      obtain rfl : x = x2 := Option.some.inj (hx.symm.trans hx2)
      have c0 : wo.cell? ⟨b, off + p * 7, none⟩ = some (.int .i64 x.kind) := (hbel.cell hbS).trans (hc 0 _ rfl)
      have d0 : wo.cell? ⟨b2, off2 + p * 7, none⟩ = some (.int .i64 x.kind) := (hbel.cell hbS2).trans (hc2 0 _ rfl)
      have c1 : wo.cell? ⟨b, off + p * 7 + 1, none⟩ = some (.int .i64 x.id) := (hbel.cell hbS).trans (hc 1 _ rfl)
      have d1 : wo.cell? ⟨b2, off2 + p * 7 + 1, none⟩ = some (.int .i64 x.id) := (hbel.cell hbS2).trans (hc2 1 _ rfl)
      have c2 : wo.cell? ⟨b, off + p * 7 + 2, none⟩ = some (.int .i64 x.table) := (hbel.cell hbS).trans (hc 2 _ rfl)
      have d2 : wo.cell? ⟨b2, off2 + p * 7 + 2, none⟩ = some (.int .i64 x.table) := (hbel.cell hbS2).trans (hc2 2 _ rfl)
      have c3 : wo.cell? ⟨b, off + p * 7 + 3, none⟩ = some (.int .i64 x.weight) := (hbel.cell hbS).trans (hc 3 _ rfl)
      have d3 : wo.cell? ⟨b2, off2 + p * 7 + 3, none⟩ = some (.int .i64 x.weight) := (hbel.cell hbS2).trans (hc2 3 _ rfl)
      have c4 : wo.cell? ⟨b, off + p * 7 + 4, none⟩ = some (.int .i64 x.at_) := (hbel.cell hbS).trans (hc 4 _ rfl)
      have d4 : wo.cell? ⟨b2, off2 + p * 7 + 4, none⟩ = some (.int .i64 x.at_) := (hbel.cell hbS2).trans (hc2 4 _ rfl)
      have c5 : wo.cell? ⟨b, off + p * 7 + 5, none⟩ = some (.int .i64 x.cursor) := (hbel.cell hbS).trans (hc 5 _ rfl)
      have d5 : wo.cell? ⟨b2, off2 + p * 7 + 5, none⟩ = some (.int .i64 x.cursor) := (hbel.cell hbS2).trans (hc2 5 _ rfl)
      have c6 : wo.cell? ⟨b, off + p * 7 + 6, none⟩ = some (.bool x.done) := (hbel.cell hbS).trans (hc 6 _ rfl)
      have d6 : wo.cell? ⟨b2, off2 + p * 7 + 6, none⟩ = some (.bool x.done) := (hbel.cell hbS2).trans (hc2 6 _ rfl)
      have hs0 := hbel.size
      have hw1 : b < wo.heap.size := Nat.lt_of_lt_of_le hbS hs0
      have hw2 : b2 < wo.heap.size := Nat.lt_of_lt_of_le hbS2 hs0
      clear hc hc2 hx hx2 h h2 hwf hwf2
      go_wp2_with fail
      go_region_held3 (fun w' => w'.cell? ⟨b, off + p * 7, none⟩ = some (.int .i64 x.kind) ∧ w'.cell? ⟨b, off + p * 7 + 1, none⟩ = some (.int .i64 x.id) ∧ w'.cell? ⟨b, off + p * 7 + 2, none⟩ = some (.int .i64 x.table) ∧ w'.cell? ⟨b, off + p * 7 + 3, none⟩ = some (.int .i64 x.weight) ∧ w'.cell? ⟨b, off + p * 7 + 4, none⟩ = some (.int .i64 x.at_) ∧ w'.cell? ⟨b, off + p * 7 + 5, none⟩ = some (.int .i64 x.cursor) ∧ w'.cell? ⟨b, off + p * 7 + 6, none⟩ = some (.bool x.done) ∧ w'.cell? ⟨b2, off2 + p * 7, none⟩ = some (.int .i64 x.kind) ∧ w'.cell? ⟨b2, off2 + p * 7 + 1, none⟩ = some (.int .i64 x.id) ∧ w'.cell? ⟨b2, off2 + p * 7 + 2, none⟩ = some (.int .i64 x.table) ∧ w'.cell? ⟨b2, off2 + p * 7 + 3, none⟩ = some (.int .i64 x.weight) ∧ w'.cell? ⟨b2, off2 + p * 7 + 4, none⟩ = some (.int .i64 x.at_) ∧ w'.cell? ⟨b2, off2 + p * 7 + 5, none⟩ = some (.int .i64 x.cursor) ∧ w'.cell? ⟨b2, off2 + p * 7 + 6, none⟩ = some (.bool x.done)) (first | exact ⟨c0, c1, c2, c3, c4, c5, c6, d0, d1, d2, d3, d4, d5, d6⟩ | exact ⟨(bel2.cell hw1).trans c0, (bel2.cell hw1).trans c1, (bel2.cell hw1).trans c2, (bel2.cell hw1).trans c3, (bel2.cell hw1).trans c4, (bel2.cell hw1).trans c5, (bel2.cell hw1).trans c6, (bel2.cell hw2).trans d0, (bel2.cell hw2).trans d1, (bel2.cell hw2).trans d2, (bel2.cell hw2).trans d3, (bel2.cell hw2).trans d4, (bel2.cell hw2).trans d5, (bel2.cell hw2).trans d6⟩)
        (first | (go_at_call 147; (with_reducible refine (plain1_note x _).mono ?_); rintro e w' ⟨rfl, bel2⟩))
      go_wp2
      go_roundw
      case rel => exact ⟨p + 1, by go_num, by omega, hbel.trans (Below.mono (B := wo.drew.heap.size) (w := wo) ⟨bel2.os, bel2.tape, bel2.output, bel2.size, bel2.block⟩ hs0)⟩
      case measure => simp [intOf]; omega
    · go_wp2
      go_ret
      exact ⟨rfl, hbel⟩

theorem plain_note (A A2 : Option Addr) (n m c c2 : Nat) (l : List Note) (w : World) (h : IsSl noteRep w (· < w.heap.size) A n l) (h2 : IsSl noteRep w (· < w.heap.size) A2 m l) (hn : n ≤ 281474976710656) :
    Calls Try.prog 111 #[.slice A n c, .slice A2 m c2] w fun e w' => e = .returned (.bool true) ∧ Below w.heap.size w w' := by
  obtain rfl : m = n := h2.len.trans h.len.symm
  have H := Lib.hid h
  have H2 := Lib.hid h2
  clear h h2
  go_enter Try.func111, Try.ntmps111
  go_wp2_with (go_at_call 146; (with_reducible refine (same_note A A2 m c c2 l _ H.out H2.out hn).mono ?_); rintro e w' ⟨rfl, bel2⟩)
  go_ret
  exact ⟨rfl, bel2⟩

end Go.Proofs.Ythhpddiicnjmmaa

set_option linter.unusedVariables false
set_option linter.unusedSimpArgs false
namespace Go.Proofs.Ythhpddiicnjmmaa
open Go.RowKit

set_option maxHeartbeats 8000000 in
set_option maxRecDepth 100000 in
theorem refhigh_no (g : Nat) (T : Nat → Prop) (x : Win) (mark lsn : Int) (w : World) (h : RefIn w T g x) (hno : x.highOk mark lsn = false) :
    Calls Try.prog 108 #[.pointer (some ⟨g, 0, none⟩), .int .i64 mark, .int .i64 lsn] w fun e w' => e = .returned (.tuple #[.agg #[.int .i64 0, .slice none 0 0, .slice none 0 0], .bool false]) ∧ Below w.heap.size w w' := by
  obtain ⟨A, c, h⟩ := h
  obtain ⟨c0, c1, c2, c3, c4, c5, c6, c7, c8, cz⟩ := h.blk.c9
  have hgl := h.lt
  clear h
  obtain ⟨xm, xa, xi, xt, xr, xc, xl, xn, xs⟩ := x
  dsimp only at c0 c1 c2 c3 c4 c5 c6 c7 c8
  have hcases : ¬ xs = 4 ∨ (xs = 4 ∧ ¬ mark = xm) ∨ (xs = 4 ∧ mark = xm ∧ lsn < 1) ∨ (xs = 4 ∧ mark = xm ∧ 1 ≤ lsn ∧ 1099511627776 < lsn) := by
    have := of_decide_eq_false hno
    dsimp only at this
    omega
  clear hno
  have r0 : (w.alloc (.cells #[.int .i64 0, .slice none 0 0, .slice none 0 0] 62)).cell? ⟨w.heap.size, 0, none⟩ = some (.int .i64 0) := World.cell?_alloc_at _ _ _ _ rfl
  have r1 : (w.alloc (.cells #[.int .i64 0, .slice none 0 0, .slice none 0 0] 62)).cell? ⟨w.heap.size, 1, none⟩ = some (.slice none 0 0) := World.cell?_alloc_at _ _ _ _ rfl
  have r2 : (w.alloc (.cells #[.int .i64 0, .slice none 0 0, .slice none 0 0] 62)).cell? ⟨w.heap.size, 2, none⟩ = some (.slice none 0 0) := World.cell?_alloc_at _ _ _ _ rfl
  rcases hcases with h1 | ⟨h1, h2⟩ | ⟨h1, h2, h3⟩ | ⟨h1, h2, h3, h4⟩
  · have d1 : (xs == 4) = false := by simpa using h1
    have d1n : (xs != 4) = true := by simpa using h1
    have d1d : decide (xs = 4) = false := decide_eq_false h1
    clear h1
    go_enter Try.func108, Try.ntmps108
    go_wp2_with fail
    refine bodyPost_ret (by simp [results, Try.results108, go_sem, r0, r1, r2]; try rfl) rfl ?_
    exact ⟨rfl, (Below.refl _ _).alloc (Nat.le_refl _) _⟩
  · subst h1
    have d1 : (mark == xm) = false := by simpa using h2
    have d1n : (mark != xm) = true := by simpa using h2
    have d1d : decide (mark = xm) = false := decide_eq_false h2
    clear h2
    go_enter Try.func108, Try.ntmps108
    go_wp2_with fail
    refine bodyPost_ret (by simp [results, Try.results108, go_sem, r0, r1, r2]; try rfl) rfl ?_
    exact ⟨rfl, (Below.refl _ _).alloc (Nat.le_refl _) _⟩
  · subst h1 h2
    have d1 : decide (lsn < 1) = true := decide_eq_true h3
    clear h3
    go_enter Try.func108, Try.ntmps108
    go_wp2_with fail
    refine bodyPost_ret (by simp [results, Try.results108, go_sem, r0, r1, r2]; try rfl) rfl ?_
    exact ⟨rfl, (Below.refl _ _).alloc (Nat.le_refl _) _⟩
  · subst h1 h2
    have d1 : decide (lsn < 1) = false := decide_eq_false (by omega)
    have d2 : decide (1099511627776 < lsn) = true := decide_eq_true h4
    clear h3 h4
    go_enter Try.func108, Try.ntmps108
    go_wp2_with fail
    refine bodyPost_ret (by simp [results, Try.results108, go_sem, r0, r1, r2]; try rfl) rfl ?_
    exact ⟨rfl, (Below.refl _ _).alloc (Nat.le_refl _) _⟩
set_option maxHeartbeats 8000000 in
set_option maxRecDepth 100000 in
theorem refhigh_ok (g : Nat) (T : Nat → Prop) (x : Win) (mark lsn : Int) (w : World) (h : RefIn w T g x) (hok : x.highOk mark lsn = true) (hn : x.rows.length ≤ 100000) (hi : I64 x.id) (ht : I64 x.table) (hc : I64 x.cursor) :
    Calls Try.prog 108 #[.pointer (some ⟨g, 0, none⟩), .int .i64 mark, .int .i64 lsn] w fun e w' => ∃ v, e = .returned (.tuple #[v, .bool true]) ∧ ItmIn w' (fun k => w.heap.size ≤ k ∧ k < w'.heap.size) v (x.tell mark lsn) ∧ RefIn w' T g (win0 x.n) ∧ w.grownBy w' (some g) := by
  have HTELL := Lib.hid (show x.tell mark lsn = ⟨lsn, x.rows.map (opOf lsn x.table), [⟨2, x.id, 0, 0, 0, x.cursor, x.last⟩]⟩ from if_pos hok)
  obtain ⟨A0, c0', h⟩ := h
  obtain ⟨xm, xa, xi, xt, xr, xc, xl, xn, xs⟩ := x
  dsimp only at hn hi ht hc
  obtain ⟨h1, h2, h3, h4⟩ := of_decide_eq_true hok
  (try dsimp only at h1 h2)
  subst h1 h2
  clear hok
  have d1 : decide (lsn < 1) = false := decide_eq_false (by omega)
  have d2 : decide (1099511627776 < lsn) = false := decide_eq_false (by omega)
  obtain ⟨nr, hnr⟩ : ∃ nr, nr = xr.length := ⟨_, rfl⟩
  have HWI := Lib.hid (show I64 xi ∧ I64 xt ∧ I64 xc ∧ I64 lsn from ⟨hi, ht, hc, by constructor <;> omega⟩)
  clear h3 h4 hi ht hc
  obtain ⟨W, hW⟩ : ∃ W, W = w.alloc (.cells #[.int .i64 0, .slice none 0 0, .slice none 0 0] 62) := ⟨_, rfl⟩
  have B1 := Lib.hid (show Below w.heap.size w W by rw [hW]; exact (Below.refl _ _).alloc (Nat.le_refl _) _)
  have HA := Lib.hid h
  have KR := Lib.hid (show Blk W w.heap.size [.int .i64 0, .slice none 0 0, .slice none 0 0] by rw [hW]; exact Blk.new rfl rfl)
  have hgl := h.lt
  have HRO := Lib.hid (show IsSl rowRep w T A0 nr xr by rw [hnr]; exact h.rows)
  have KG0 := h.blk
  dsimp only at KG0
  rw [← hnr] at KG0
  have KG := Lib.hid (KG0.after B1.out)
  rw [← hnr] at hn
  have HNR := Lib.hid hnr
  obtain ⟨q0, q1, q2, q3, q4, q5, q6, q7, q8, qz⟩ := KG0.c9
  clear hnr h KG0
  have HW := Lib.hid hW
  clear hW
  go_enter Try.func108, Try.ntmps108
  go_wp2_with fail
  rw [← HW.out]
  clear q0 q1 q2 q3 q4 q5 q6 q7 q8 qz
  have hgw : g < W.heap.size := Nat.lt_of_lt_of_le hgl B1.out.size
  obtain ⟨k0, k1, k2, k3, k4, k5, k6, k7, k8, kz⟩ := KG.out.c9
  obtain ⟨i0, hi, hz0, hz1, hz2⟩ := info_parts info_opr
  have hRs : w.heap.size < W.heap.size := KR.out.lt
  go_region
  · obtain ⟨V, hV⟩ : ∃ V, V = ((W.alloc (.cells #[.int .i64 2, .int .i64 xi, .int .i64 0, .int .i64 0, .int .i64 0, .int .i64 xc, .bool xl] 91)).alloc (.cells #[.int .i64 lsn, .slice none 0 0, .slice (some ⟨W.heap.size, 0, none⟩) 1 1] 62)).drew := ⟨_, rfl⟩
    have KN0 := Lib.hid (show Blk V (W.heap.size) [.int .i64 2, .int .i64 xi, .int .i64 0, .int .i64 0, .int .i64 0, .int .i64 xc, .bool xl] by rw [hV]; exact ((Blk.new rfl rfl).alloc _).drew)
    have KX0 := Lib.hid (show Blk V (W.heap.size + 1) [.int .i64 lsn, .slice none 0 0, .slice (some ⟨W.heap.size, 0, none⟩) 1 1] by rw [hV]; exact (Blk.new rfl (by simp)).drew)
    have BV0 := Lib.hid (show Below W.heap.size W V by rw [hV]; exact below_drewN (((Below.refl _ _).alloc (Nat.le_refl _) _).alloc (by simp) _) 1)
    have hXN : W.heap.size + 1 ≠ W.heap.size := by omega
    rw [← hV]
    clear hV
    obtain ⟨X, hX⟩ : ∃ X, X = W.heap.size + 1 := ⟨_, rfl⟩
    rw [← hX] at KX0 hXN ⊢
    obtain ⟨NB, hNB⟩ : ∃ NB, NB = W.heap.size := ⟨_, rfl⟩
    rw [← hNB] at KN0 KX0 hXN ⊢
    have hX1 : W.heap.size ≤ X := by omega
    have hN1 : W.heap.size ≤ NB := by omega
    clear hX hNB
    have KG1 := Lib.hid (KG.out.after BV0.out)
    have KR1 := Lib.hid (KR.out.after BV0.out)
    have BV := Lib.hid (B1.out.trans (BV0.out.mono (Nat.le_of_lt hRs)))
    have hXV : X < V.heap.size := KX0.out.lt
    have hNV : NB < V.heap.size := KN0.out.lt
    have hRV : w.heap.size < V.heap.size := KR1.out.lt
    have hgV : g < V.heap.size := KG1.out.lt
    have hXg : X ≠ g := by omega
    have hXR : X ≠ w.heap.size := by omega
    have hRg : w.heap.size ≠ g := by omega
    obtain ⟨B0, hB0⟩ : ∃ B0, B0 = V.heap.size := ⟨_, rfl⟩
    rw [← hB0] at hXV hNV hRV hgV
    have HB0 := Lib.hid hB0
    obtain ⟨k0, k1, k2, k3, k4, k5, k6, k7, k8, kz⟩ := KG1.out.c9
    obtain ⟨x0, x1, x2, xz⟩ := KX0.out.c3
    clear hB0
    go_wp2_with fail
    go_loopw [9] (fun i wr => ∃ (p : Nat) (v2 : Value), i = .int .i64 p ∧ p ≤ nr ∧ Own oprRep wr B0 (fun _ => False) 71 v2 ((xr.take p).map (opOf lsn xt)) ∧ Blk wr X [.int .i64 lsn, v2, .slice (some ⟨NB, 0, none⟩) 1 1] ∧ Blk wr NB [.int .i64 2, .int .i64 xi, .int .i64 0, .int .i64 0, .int .i64 0, .int .i64 xc, .bool xl] ∧ V.grownBy wr (some X)) (fun i _ => nr - (intOf i).toNat)
    case atStart => exact ⟨0, _, rfl, Nat.zero_le _, Own.nil _ _ _ (fun _ h => h.elim) _ none, KX0.out, KN0.out, World.grownBy.refl V _⟩
    case round =>
      obtain ⟨p, v2, rfl, hp, hown, hkx, hkn, hbe⟩ := hrel
      have OW := Lib.hid hown
      have KX := Lib.hid hkx
      have KN := Lib.hid hkn
      have BE := Lib.hid hbe
      have HR2 := Lib.hid (show ∀ r, rowOf v2 = some r → B0 ≤ r from fun r hr => OW.out.row_ge hr)
      obtain ⟨x0, x1, x2, xz⟩ := KX.out.c3
      have hgV2 : g < V.heap.size := by rw [← HB0.out]; exact hgV
      have KGr := Lib.hid (KG1.out.grown hbe (fun k hk => fun e => hXg (by injection hk with hk; omega)))
      obtain ⟨k0, k1, k2, k3, k4, k5, k6, k7, k8, kz⟩ := KGr.out.c9
      have kV3 := KG1.out.1 3 _ rfl
      have kV8 := KG1.out.1 8 _ rfl
      have hsz : B0 ≤ wr.heap.size := Nat.le_trans (Nat.le_of_eq HB0.out) hbe.size
      clear hown hkx hkn hbe
      by_cases hlt : p < nr
      · have hd : decide ((p : Int) < (nr : Int)) = true := decide_eq_true (by omega)
        have hpi : (p : Int) < (nr : Int) := by omega
        obtain ⟨b0, off, y, rfl, hb0, hy, hwf, e0V, e1V⟩ := HRO.out.row (w' := V) hlt (fun q hq => BV.out.cell (HA.out.hT _ hq))
        have hb0w : b0 < w.heap.size := HA.out.hT _ hb0
        have hbV : b0 < V.heap.size := by have := BV.out.size; omega
        have hXb : X ≠ b0 := by omega
        have e0 := (World.cell?_of_block (a := ⟨b0, off + p * 2, none⟩) (BE.out.block b0 hbV (fun e => hXb (Option.some.inj e).symm))).trans e0V
        have e1 := (World.cell?_of_block (a := ⟨b0, off + p * 2 + 1, none⟩) (BE.out.block b0 hbV (fun e => hXb (Option.some.inj e).symm))).trans e1V
        have HTK := Lib.hid (show (xr.take (p + 1)).map (opOf lsn xt) = (xr.take p).map (opOf lsn xt) ++ [opOf lsn xt y] by rw [take_snoc hy, List.map_append]; rfl)
        have HWF := Lib.hid (show (opOf lsn xt y).wf from ⟨HWI.out.2.2.2, HWI.out.2.1, hwf.1, hwf.2⟩)
        have HLE := Lib.hid (show ((xr.take p).map (opOf lsn xt)).length ≤ 100000 by rw [List.length_map, List.length_take, ← HNR.out]; omega)
        obtain ⟨yk, yv⟩ := y
        dsimp only at e0 e1 e0V e1V
        clear hwf hy
        obtain ⟨acc, hacc⟩ : ∃ acc, acc = (xr.take p).map (opOf lsn xt) := ⟨_, rfl⟩
        rw [← hacc] at OW HTK HLE
        clear hacc
        have hle := HLE.out
        have hXr : X < wr.heap.size := by omega
        have hgr : g < wr.heap.size := by omega
        have hbr : b0 < wr.heap.size := by omega
        go_wp2_with fail
        have OWD := Lib.hid OW.out.drew
        have KXD := Lib.hid KX.out.drew
        have KND := Lib.hid KN.out.drew
        have hA : ∀ o : Obj, (wr.alloc o).cell? ⟨g, 3, none⟩ = some (.int .i64 xt) ∧ (wr.alloc o).cell? ⟨g, 8, none⟩ = some (.slice (some ⟨b0, off, none⟩) nr c0') ∧ (wr.alloc o).cell? ⟨b0, off + p * 2, none⟩ = some (.int .i64 yk) ∧ (wr.alloc o).cell? ⟨b0, off + p * 2 + 1, none⟩ = some (.string yv) := fun o => ⟨(KGr.out.alloc o).1 3 _ rfl, (KGr.out.alloc o).1 8 _ rfl, (((Below.refl _ _).alloc (Nat.le_refl _) _).cell (p := ⟨b0, _, none⟩) hbr).trans e0, (((Below.refl _ _).alloc (Nat.le_refl _) _).cell (p := ⟨b0, _, none⟩) hbr).trans e1⟩
        have hX1 : ∀ o : Obj, (wr.alloc o).cell? ⟨X, 1, none⟩ = some v2 := fun o => (KXD.out.alloc o).1 1 _ rfl
        have HSRC := Lib.hid (show Src oprRep (wr.drew.alloc (.cells #[.int .i64 lsn, .int .i64 xt, .int .i64 yk, .bool false, .string yv] 71)) (fun _ => False) (some ⟨wr.heap.size, 0, none⟩) 1 [opOf lsn xt ⟨yk, yv⟩] from Src.new (R := oprRep) (w := wr.drew) (e := 71) (S := fun _ => False) (a := opOf lsn xt ⟨yk, yv⟩) (cs := (opOf lsn xt ⟨yk, yv⟩).cells) ⟨rfl, HWF.out⟩)
        refine wp_region_held_drew (S := fun w' => w'.cell? ⟨g, 3, none⟩ = some (.int .i64 xt) ∧ w'.cell? ⟨g, 8, none⟩ = some (.slice (some ⟨b0, off, none⟩) nr c0') ∧ w'.cell? ⟨b0, off + p * 2, none⟩ = some (.int .i64 yk) ∧ w'.cell? ⟨b0, off + p * 2 + 1, none⟩ = some (.string yv)) (by kernel_rfl) ⟨k3, k8, e0, e1⟩ (fun hHeld => ?_)
        (refine wpAnyH_take (i := 0) (v := ?_) rfl (by kernel_rfl) (by kernel_rfl) (by kernel_rfl) (fun _ _ _ h => h) (Or.inl ⟨by rfl, ?_⟩) hHeld ?_; rotate_left 1; focus (intro w hSw; (try dsimp only at hSw); go_simp; try with_reducible rfl)); (try simp only [Act.put, List.setIfInBounds_toArray, List.set_cons_zero, List.set_cons_succ])
        (refine wpAnyH_take (i := 2) (v := ?_) rfl (by kernel_rfl) (by kernel_rfl) (by kernel_rfl) (fun _ _ _ h => h) (Or.inl ⟨by rfl, ?_⟩) hHeld ?_; rotate_left 1; focus (intro w hSw; (try dsimp only at hSw); go_simp; try with_reducible rfl)); (try simp only [Act.put, List.setIfInBounds_toArray, List.set_cons_zero, List.set_cons_succ])
        (refine wpAnyH_take (i := 3) (v := ?_) rfl (by kernel_rfl) (by kernel_rfl) (by kernel_rfl) (fun _ _ _ h => h) (Or.inl ⟨by rfl, ?_⟩) hHeld ?_; rotate_left 1; focus (intro w hSw; (try dsimp only at hSw); go_simp; try with_reducible rfl)); (try simp only [Act.put, List.setIfInBounds_toArray, List.set_cons_zero, List.set_cons_succ])
        (refine wpAnyH_take (i := 4) (v := ?_) rfl (by kernel_rfl) (by kernel_rfl) (by kernel_rfl) (fun _ _ _ h => h) (Or.inl ⟨by rfl, ?_⟩) hHeld ?_; rotate_left 1; focus (intro w hSw; (try dsimp only at hSw); go_simp; try with_reducible rfl)); (try simp only [Act.put, List.setIfInBounds_toArray, List.set_cons_zero, List.set_cons_succ])
        (refine wpAnyH_take (i := 5) (v := ?_) rfl (by kernel_rfl) (by kernel_rfl) (by kernel_rfl) (fun _ _ _ h => h) (Or.inl ⟨by rfl, ?_⟩) hHeld ?_; rotate_left 1; focus (intro w hSw; (try dsimp only at hSw); go_simp; try with_reducible rfl)); (try simp only [Act.put, List.setIfInBounds_toArray, List.set_cons_zero, List.set_cons_succ])
        (refine wpAnyH_take (i := 6) (v := ?_) rfl (by kernel_rfl) (by kernel_rfl) (by kernel_rfl) (fun _ _ _ h => h) (Or.inl ⟨by rfl, ?_⟩) hHeld ?_; rotate_left 1; focus (intro w hSw; (try dsimp only at hSw); go_simp; try with_reducible rfl)); (try simp only [Act.put, List.setIfInBounds_toArray, List.set_cons_zero, List.set_cons_succ])
        (refine wpAnyH_take (i := 7) (v := ?_) rfl (by kernel_rfl) (by kernel_rfl) (by kernel_rfl) (fun _ _ _ h => h) (Or.inl ⟨by rfl, ?_⟩) hHeld ?_; rotate_left 1; focus (intro w hSw; (try dsimp only at hSw); go_simp; try with_reducible rfl)); (try simp only [Act.put, List.setIfInBounds_toArray, List.set_cons_zero, List.set_cons_succ])
        (refine wpAnyH_take (i := 8) (v := ?_) rfl (by kernel_rfl) (by kernel_rfl) (by kernel_rfl) (fun _ _ _ h => h) (Or.inl ⟨by rfl, ?_⟩) hHeld ?_; rotate_left 1; focus (intro w hSw; (try dsimp only at hSw); go_simp; try with_reducible rfl)); (try simp only [Act.put, List.setIfInBounds_toArray, List.set_cons_zero, List.set_cons_succ])
        (refine wpAnyH_take (i := 9) (v := ?_) rfl (by kernel_rfl) (by kernel_rfl) (by kernel_rfl) (fun _ _ _ h => h) (Or.inl ⟨by rfl, ?_⟩) hHeld ?_; rotate_left 1; focus (intro w hSw; (try dsimp only at hSw); go_simp; try with_reducible rfl)); (try simp only [Act.put, List.setIfInBounds_toArray, List.set_cons_zero, List.set_cons_succ])
        (refine wpAnyH_take (i := 10) (v := ?_) rfl (by kernel_rfl) (by kernel_rfl) (by kernel_rfl) (fun _ _ _ h => h) (Or.inl ⟨by rfl, ?_⟩) hHeld ?_; rotate_left 1; focus (intro w hSw; (try dsimp only at hSw); go_simp; try with_reducible rfl)); (try simp only [Act.put, List.setIfInBounds_toArray, List.set_cons_zero, List.set_cons_succ])
        (refine wpAnyH_take (i := 11) (v := ?_) rfl (by kernel_rfl) (by kernel_rfl) (by kernel_rfl) (fun _ _ _ h => h) (Or.inl ⟨by rfl, ?_⟩) hHeld ?_; rotate_left 1; focus (intro w hSw; (try dsimp only at hSw); go_simp; try with_reducible rfl)); (try simp only [Act.put, List.setIfInBounds_toArray, List.set_cons_zero, List.set_cons_succ])
        (refine wpAnyH_take (i := 12) (v := ?_) rfl (by kernel_rfl) (by kernel_rfl) (by kernel_rfl) (fun _ _ _ h => h) (Or.inl ⟨by rfl, ?_⟩) hHeld ?_; rotate_left 1; focus (intro w hSw; (try dsimp only at hSw); go_simp; try with_reducible rfl)); (try simp only [Act.put, List.setIfInBounds_toArray, List.set_cons_zero, List.set_cons_succ])
        (refine wpAnyH_take (i := 13) (v := ?_) rfl (by kernel_rfl) (by kernel_rfl) (by kernel_rfl) (fun _ _ _ h => h) (Or.inl ⟨by rfl, ?_⟩) hHeld ?_; rotate_left 1; focus (intro w hSw; (try dsimp only at hSw); go_simp; try with_reducible rfl)); (try simp only [Act.put, List.setIfInBounds_toArray, List.set_cons_zero, List.set_cons_succ])
        (refine wpAnyH_take (i := 14) (v := ?_) rfl (by kernel_rfl) (by kernel_rfl) (by kernel_rfl) (fun _ _ _ h => h) (Or.inl ⟨by rfl, ?_⟩) hHeld ?_; rotate_left 1; focus (intro w hSw; (try dsimp only at hSw); go_simp; try with_reducible rfl)); (try simp only [Act.put, List.setIfInBounds_toArray, List.set_cons_zero, List.set_cons_succ])
        (refine wpAnyH_take (i := 15) (v := ?_) rfl (by kernel_rfl) (by kernel_rfl) (by kernel_rfl) (fun _ _ _ h => h) (Or.inl ⟨by rfl, ?_⟩) hHeld ?_; rotate_left 1; focus (intro w hSw; (try dsimp only at hSw); go_simp; try with_reducible rfl)); (try simp only [Act.put, List.setIfInBounds_toArray, List.set_cons_zero, List.set_cons_succ])
        (refine wpAnyH_take (i := 16) (v := ?_) rfl (by kernel_rfl) (by kernel_rfl) (by kernel_rfl) (fun _ _ _ h => h) (Or.inl ⟨by rfl, ?_⟩) hHeld ?_; rotate_left 1; focus (intro w hSw; (try dsimp only at hSw); go_simp; try with_reducible rfl)); (try simp only [Act.put, List.setIfInBounds_toArray, List.set_cons_zero, List.set_cons_succ])
        (refine wpAnyH_take (i := 17) (v := ?_) rfl (by kernel_rfl) (by kernel_rfl) (by kernel_rfl) (fun _ _ _ h => h) (Or.inl ⟨by rfl, ?_⟩) hHeld ?_; rotate_left 1; focus (intro w hSw; (try dsimp only at hSw); go_simp; try with_reducible rfl)); (try simp only [Act.put, List.setIfInBounds_toArray, List.set_cons_zero, List.set_cons_succ])
        (refine wpAnyH_take (i := 18) (v := ?_) rfl (by kernel_rfl) (by kernel_rfl) (by kernel_rfl) (fun _ _ _ h => h) (Or.inl ⟨by rfl, ?_⟩) hHeld ?_; rotate_left 1; focus (intro w hSw; (try dsimp only at hSw); go_simp; try with_reducible rfl)); (try simp only [Act.put, List.setIfInBounds_toArray, List.set_cons_zero, List.set_cons_succ])
        (refine wpAnyH_take (i := 19) (v := ?_) rfl (by kernel_rfl) (by kernel_rfl) (by kernel_rfl) (fun _ _ _ h => h) (Or.inl ⟨by rfl, ?_⟩) hHeld ?_; rotate_left 1; focus (intro w hSw; (try dsimp only at hSw); go_simp; try with_reducible rfl)); (try simp only [Act.put, List.setIfInBounds_toArray, List.set_cons_zero, List.set_cons_succ])
        (refine wpAnyH_take (i := 20) (v := ?_) rfl (by kernel_rfl) (by kernel_rfl) (by kernel_rfl) (fun _ _ _ h => h) (Or.inl ⟨by rfl, ?_⟩) hHeld ?_; rotate_left 1; focus (intro w hSw; (try dsimp only at hSw); go_simp; try with_reducible rfl)); (try simp only [Act.put, List.setIfInBounds_toArray, List.set_cons_zero, List.set_cons_succ])
        (refine wpAnyH_take (i := 21) (v := ?_) rfl (by kernel_rfl) (by kernel_rfl) (by kernel_rfl) (fun _ _ _ h => h) (Or.inl ⟨by rfl, ?_⟩) hHeld ?_; rotate_left 1; focus (intro w hSw; (try dsimp only at hSw); go_simp; try with_reducible rfl)); (try simp only [Act.put, List.setIfInBounds_toArray, List.set_cons_zero, List.set_cons_succ])
        (refine wpAnyH_take (i := 22) (v := ?_) rfl (by kernel_rfl) (by kernel_rfl) (by kernel_rfl) (fun _ _ _ h => h) (Or.inl ⟨by rfl, ?_⟩) hHeld ?_; rotate_left 1; focus (intro w hSw; (try dsimp only at hSw); go_simp; try with_reducible rfl)); (try simp only [Act.put, List.setIfInBounds_toArray, List.set_cons_zero, List.set_cons_succ])
        (refine wpAnyH_take (i := 23) (v := ?_) rfl (by kernel_rfl) (by kernel_rfl) (by kernel_rfl) (fun _ _ _ h => h) (Or.inl ⟨by rfl, ?_⟩) hHeld ?_; rotate_left 1; focus (intro w hSw; (try dsimp only at hSw); go_simp; try with_reducible rfl)); (try simp only [Act.put, List.setIfInBounds_toArray, List.set_cons_zero, List.set_cons_succ])
        refine wpAnyH_ready (rs := [1, 24]) (by kernel_rfl) (by simp) ?_
        refine AllReadyH.cons rfl (fun K hK => ?_) (AllReadyH.cons rfl (fun K hK => ?_) AllReadyH.nil)
        · go_simp
          refine hK.out _ _ hHeld (fun _ => ?_)
          clear hK K
          refine wpAnyH_ready (rs := [24]) (by kernel_rfl) (by simp) ?_
          refine AllReadyH.cons rfl (fun K hK => ?_) AllReadyH.nil
          go_simp
          refine hK.out _ _ (hA _) (fun _ => ?_)
          clear hK K
          refine wpAnyH_ready (rs := [25]) (by kernel_rfl) (by simp) ?_
          refine AllReadyH.cons rfl (fun K hK => ?_) AllReadyH.nil
          refine step_append_Own (w := wr.drew.alloc (.cells #[.int .i64 lsn, .int .i64 xt, .int .i64 yk, .bool false, .string yv] 71)) rfl (.tmp 58) (.tmp 81) 59 rfl B0 71 i0 _ 48 Try.underlying59 hi hz0 hz1 hz2 rfl (R := oprRep) (S := fun _ => False) (l := acc) (l' := [opOf lsn xt ⟨yk, yv⟩]) v2 rfl (OWD.out.alloc _) _ 1 1 rfl HSRC.out (by simp only [maxLen]; omega) (by omega) (by omega) (by show B0 ≤ (wr.alloc _).heap.size; simp; omega) ?_
          intro v9 w9 own9 gr9 at9
          obtain ⟨A9, c9, hv9, hlc9, hcm9, sl9⟩ := own9.isSlB
          obtain ⟨m9, hm9⟩ : ∃ m9, m9 = (acc ++ [opOf lsn xt ⟨yk, yv⟩]).length := ⟨_, rfl⟩
          rw [← hm9] at hv9
          subst hv9
          clear hm9 hlc9 hcm9 sl9
          have KX9 := Lib.hid ((KXD.out.alloc _).grown gr9 (fun k hk e => by have := HR2.out k hk; omega))
          have KN9 := Lib.hid ((KND.out.alloc _).grown gr9 (fun k hk e => by have := HR2.out k hk; omega))
          have BE9 := Lib.hid (grown_far (grown_trans (grown_drew BE.out) (grown_of_below ((Below.refl _ _).alloc (Nat.le_refl _) _) _)) gr9 (fun k hk => by rw [← HB0.out]; exact HR2.out k hk))
          have OW9 := Lib.hid own9
          have hs9 : B0 ≤ w9.heap.size := by have h9 := gr9.size; simp at h9; omega
          have hgk : w9.cell? ⟨g, 3, none⟩ = some (.int .i64 xt) ∧ w9.cell? ⟨g, 8, none⟩ = some (.slice (some ⟨b0, off, none⟩) nr c0') ∧ w9.cell? ⟨b0, off + p * 2, none⟩ = some (.int .i64 yk) ∧ w9.cell? ⟨b0, off + p * 2 + 1, none⟩ = some (.string yv) := ⟨(World.cell?_of_block (BE9.out.block g hgV2 (fun e => hXg (Option.some.inj e).symm))).trans kV3, (World.cell?_of_block (BE9.out.block g hgV2 (fun e => hXg (Option.some.inj e).symm))).trans kV8, (World.cell?_of_block (BE9.out.block b0 hbV (fun e => hXb (Option.some.inj e).symm))).trans e0V, (World.cell?_of_block (BE9.out.block b0 hbV (fun e => hXb (Option.some.inj e).symm))).trans e1V⟩
          have hgx : ∀ v : Value, (w9.setCell ⟨X, 1, none⟩ v).cell? ⟨g, 3, none⟩ = some (.int .i64 xt) ∧ (w9.setCell ⟨X, 1, none⟩ v).cell? ⟨g, 8, none⟩ = some (.slice (some ⟨b0, off, none⟩) nr c0') ∧ (w9.setCell ⟨X, 1, none⟩ v).cell? ⟨b0, off + p * 2, none⟩ = some (.int .i64 yk) ∧ (w9.setCell ⟨X, 1, none⟩ v).cell? ⟨b0, off + p * 2 + 1, none⟩ = some (.string yv) := fun v => ⟨(World.cell?_setCell_far w9 _ _ v hXg).trans hgk.1, (World.cell?_setCell_far w9 _ _ v hXg).trans hgk.2.1, (World.cell?_setCell_far w9 _ _ v hXb).trans hgk.2.2.1, (World.cell?_setCell_far w9 _ _ v hXb).trans hgk.2.2.2⟩
          clear own9 gr9 at9
          obtain ⟨x0, x1, x2, xz⟩ := KX9.out.c3
          refine hK.out _ _ hgk (fun hHeld9 => ?_)
          clear hK K
          (refine wpAnyH_take (i := 26) (v := ?_) rfl (by kernel_rfl) (by kernel_rfl) (by kernel_rfl) (fun _ _ _ h => h) (Or.inl ⟨by rfl, ?_⟩) hHeld9 ?_; rotate_left 1; focus (intro w hSw; (try dsimp only at hSw); go_simp; try with_reducible rfl)); (try simp only [Act.put, List.setIfInBounds_toArray, List.set_cons_zero, List.set_cons_succ])
          refine wpAnyH_ready (rs := [27]) (by kernel_rfl) (by simp) ?_
          refine AllReadyH.cons rfl (fun K hK => ?_) AllReadyH.nil
          go_simp
          refine hK.out _ _ (hgx _) (fun _ => ?_)
          clear hK K
          refine wpAnyH_done (by kernel_rfl) ?_ _
          go_wp2_with fail
          go_roundw
          case rel => exact ⟨p + 1, .slice A9 m9 c9, by go_num, by omega, by rw [HTK.out]; exact OW9.out.kept (grownBy_set w9 ⟨X, 1, none⟩ _) (fun k hk => ⟨fun e => (by have h1 := OW9.out.row_ge e; injection hk with hk; dsimp only at hk; omega), id⟩), KX9.out.put (by simp) _ rfl, KN9.out.other (Ne.symm hXN) 1 _, gset BE9.out 1 _⟩
          case measure => simp [intOf]; omega
        · go_simp
          refine hK.out _ _ (hA _) (fun _ => ?_)
          clear hK K
          refine wpAnyH_ready (rs := [1]) (by kernel_rfl) (by simp) ?_
          refine AllReadyH.cons rfl (fun K hK => ?_) AllReadyH.nil
          go_simp
          refine hK.out _ _ (hA _) (fun _ => ?_)
          clear hK K
          refine wpAnyH_ready (rs := [25]) (by kernel_rfl) (by simp) ?_
          refine AllReadyH.cons rfl (fun K hK => ?_) AllReadyH.nil
          refine step_append_Own (w := wr.drew.alloc (.cells #[.int .i64 lsn, .int .i64 xt, .int .i64 yk, .bool false, .string yv] 71)) rfl (.tmp 58) (.tmp 81) 59 rfl B0 71 i0 _ 48 Try.underlying59 hi hz0 hz1 hz2 rfl (R := oprRep) (S := fun _ => False) (l := acc) (l' := [opOf lsn xt ⟨yk, yv⟩]) v2 rfl (OWD.out.alloc _) _ 1 1 rfl HSRC.out (by simp only [maxLen]; omega) (by omega) (by omega) (by show B0 ≤ (wr.alloc _).heap.size; simp; omega) ?_
          intro v9 w9 own9 gr9 at9
          obtain ⟨A9, c9, hv9, hlc9, hcm9, sl9⟩ := own9.isSlB
          obtain ⟨m9, hm9⟩ : ∃ m9, m9 = (acc ++ [opOf lsn xt ⟨yk, yv⟩]).length := ⟨_, rfl⟩
          rw [← hm9] at hv9
          subst hv9
          clear hm9 hlc9 hcm9 sl9
          have KX9 := Lib.hid ((KXD.out.alloc _).grown gr9 (fun k hk e => by have := HR2.out k hk; omega))
          have KN9 := Lib.hid ((KND.out.alloc _).grown gr9 (fun k hk e => by have := HR2.out k hk; omega))
          have BE9 := Lib.hid (grown_far (grown_trans (grown_drew BE.out) (grown_of_below ((Below.refl _ _).alloc (Nat.le_refl _) _) _)) gr9 (fun k hk => by rw [← HB0.out]; exact HR2.out k hk))
          have OW9 := Lib.hid own9
          have hs9 : B0 ≤ w9.heap.size := by have h9 := gr9.size; simp at h9; omega
          have hgk : w9.cell? ⟨g, 3, none⟩ = some (.int .i64 xt) ∧ w9.cell? ⟨g, 8, none⟩ = some (.slice (some ⟨b0, off, none⟩) nr c0') ∧ w9.cell? ⟨b0, off + p * 2, none⟩ = some (.int .i64 yk) ∧ w9.cell? ⟨b0, off + p * 2 + 1, none⟩ = some (.string yv) := ⟨(World.cell?_of_block (BE9.out.block g hgV2 (fun e => hXg (Option.some.inj e).symm))).trans kV3, (World.cell?_of_block (BE9.out.block g hgV2 (fun e => hXg (Option.some.inj e).symm))).trans kV8, (World.cell?_of_block (BE9.out.block b0 hbV (fun e => hXb (Option.some.inj e).symm))).trans e0V, (World.cell?_of_block (BE9.out.block b0 hbV (fun e => hXb (Option.some.inj e).symm))).trans e1V⟩
          have hgx : ∀ v : Value, (w9.setCell ⟨X, 1, none⟩ v).cell? ⟨g, 3, none⟩ = some (.int .i64 xt) ∧ (w9.setCell ⟨X, 1, none⟩ v).cell? ⟨g, 8, none⟩ = some (.slice (some ⟨b0, off, none⟩) nr c0') ∧ (w9.setCell ⟨X, 1, none⟩ v).cell? ⟨b0, off + p * 2, none⟩ = some (.int .i64 yk) ∧ (w9.setCell ⟨X, 1, none⟩ v).cell? ⟨b0, off + p * 2 + 1, none⟩ = some (.string yv) := fun v => ⟨(World.cell?_setCell_far w9 _ _ v hXg).trans hgk.1, (World.cell?_setCell_far w9 _ _ v hXg).trans hgk.2.1, (World.cell?_setCell_far w9 _ _ v hXb).trans hgk.2.2.1, (World.cell?_setCell_far w9 _ _ v hXb).trans hgk.2.2.2⟩
          clear own9 gr9 at9
          obtain ⟨x0, x1, x2, xz⟩ := KX9.out.c3
          refine hK.out _ _ hgk (fun hHeld9 => ?_)
          clear hK K
          (refine wpAnyH_take (i := 26) (v := ?_) rfl (by kernel_rfl) (by kernel_rfl) (by kernel_rfl) (fun _ _ _ h => h) (Or.inl ⟨by rfl, ?_⟩) hHeld9 ?_; rotate_left 1; focus (intro w hSw; (try dsimp only at hSw); go_simp; try with_reducible rfl)); (try simp only [Act.put, List.setIfInBounds_toArray, List.set_cons_zero, List.set_cons_succ])
          refine wpAnyH_ready (rs := [27]) (by kernel_rfl) (by simp) ?_
          refine AllReadyH.cons rfl (fun K hK => ?_) AllReadyH.nil
          go_simp
          refine hK.out _ _ (hgx _) (fun _ => ?_)
          clear hK K
          refine wpAnyH_done (by kernel_rfl) ?_ _
          go_wp2_with fail
          go_roundw
          case rel => exact ⟨p + 1, .slice A9 m9 c9, by go_num, by omega, by rw [HTK.out]; exact OW9.out.kept (grownBy_set w9 ⟨X, 1, none⟩ _) (fun k hk => ⟨fun e => (by have h1 := OW9.out.row_ge e; injection hk with hk; dsimp only at hk; omega), id⟩), KX9.out.put (by simp) _ rfl, KN9.out.other (Ne.symm hXN) 1 _, gset BE9.out 1 _⟩
          case measure => simp [intOf]; omega
      · obtain rfl : nr = p := by omega
        have hd : decide ((nr : Int) < (nr : Int)) = false := by simp
        have hRV2 : w.heap.size < V.heap.size := by rw [← HB0.out]; exact hRV
        have KRr := Lib.hid (KR1.out.grown BE.out (fun k hk => fun e => hXR (by injection hk with hk; omega)))
        obtain ⟨r0, r1, r2, rz⟩ := KRr.out.c3
        have hRX : w.heap.size ≠ X := Ne.symm hXR
        have htj : xr.take nr = xr := List.take_of_length_le (by rw [← HNR.out]; exact Nat.le_refl _)
        rw [htj] at OW
        obtain ⟨Av, cv, hv2, _, _, _⟩ := OW.out.isSlB
        obtain ⟨mv, hmv⟩ : ∃ mv, mv = (xr.map (opOf lsn xt)).length := ⟨_, rfl⟩
        rw [← hmv] at hv2
        subst hv2
        clear hmv htj hlt
        go_upto_region 9 with fail
        obtain ⟨Z, hZ⟩ : ∃ Z, Z = (((((((((wr.setCell ⟨g, 0, none⟩ (.int .i64 xn)).setCell ⟨g, 1, none⟩ (.int .i64 0)).setCell ⟨g, 2, none⟩ (.int .i64 0)).setCell ⟨g, 3, none⟩ (.int .i64 0)).setCell ⟨g, 4, none⟩ (.int .i64 0)).setCell ⟨g, 5, none⟩ (.int .i64 0)).setCell ⟨g, 6, none⟩ (.int .i64 0)).setCell ⟨g, 7, none⟩ (.bool false)).setCell ⟨g, 8, none⟩ (.slice none 0 0)) := ⟨_, rfl⟩
        have hgX : g ≠ X := Ne.symm hXg
        have hgR : g ≠ w.heap.size := Ne.symm hRg
        have KXz := Lib.hid (show Blk Z X [.int .i64 lsn, .slice Av mv cv, .slice (some ⟨NB, 0, none⟩) 1 1] by rw [hZ]; exact (((((((((KX.out.other hXg 0 _).other hXg 1 _).other hXg 2 _).other hXg 3 _).other hXg 4 _).other hXg 5 _).other hXg 6 _).other hXg 7 _).other hXg 8 _))
        have KRz := Lib.hid (show Blk Z w.heap.size [.int .i64 0, .slice none 0 0, .slice none 0 0] by rw [hZ]; exact (((((((((KRr.out.other hRg 0 _).other hRg 1 _).other hRg 2 _).other hRg 3 _).other hRg 4 _).other hRg 5 _).other hRg 6 _).other hRg 7 _).other hRg 8 _))
        have KGz := Lib.hid (show Blk Z g [.int .i64 xn, .int .i64 0, .int .i64 0, .int .i64 0, .int .i64 0, .int .i64 0, .int .i64 0, .bool false, .slice none 0 0] by rw [hZ]; exact (((((((((KGr.out.put (j := 0) (by simp) _ rfl).put (j := 1) (by simp) _ rfl).put (j := 2) (by simp) _ rfl).put (j := 3) (by simp) _ rfl).put (j := 4) (by simp) _ rfl).put (j := 5) (by simp) _ rfl).put (j := 6) (by simp) _ rfl).put (j := 7) (by simp) _ rfl).put (j := 8) (by simp) _ rfl))
        have GZ := Lib.hid (show wr.grownBy Z (some g) by rw [hZ]; exact (gset (gset (gset (gset (gset (gset (gset (gset (gset (World.grownBy.refl wr _) 0 _) 1 _) 2 _) 3 _) 4 _) 5 _) 6 _) 7 _) 8 _))
        have GW := Lib.hid (show w.grownBy Z (some g) from grown_trans (grown_far (grown_of_below BV.out _) BE.out (fun k hk => by injection hk with hk; have := B1.out.size; omega)) GZ.out)
        have hNg : NB ≠ g := by omega
        have KNz := Lib.hid (show Blk Z NB [.int .i64 2, .int .i64 xi, .int .i64 0, .int .i64 0, .int .i64 0, .int .i64 xc, .bool xl] from KN.out.grown GZ.out (fun k hk => fun e => hNg (by injection hk with hk; omega)))
        have OZ := Lib.hid (OW.out.kept GZ.out (fun k hk => ⟨fun e => by injection hk with hk; have h1 := OW.out.row_ge e; omega, id⟩))
        have FR := Lib.hid (show Blk (((Z.setCell ⟨w.heap.size, 0, none⟩ (.int .i64 lsn)).setCell ⟨w.heap.size, 1, none⟩ (.slice Av mv cv)).setCell ⟨w.heap.size, 2, none⟩ (.slice (some ⟨NB, 0, none⟩) 1 1)) w.heap.size [.int .i64 lsn, .slice Av mv cv, .slice (some ⟨NB, 0, none⟩) 1 1] from (((KRz.out.put (j := 0) (by simp) _ rfl).put (j := 1) (by simp) _ rfl).put (j := 2) (by simp) _ rfl))
        obtain ⟨f0, f1, f2, fz⟩ := FR.out.c3
        have GF := Lib.hid (show Z.grownBy (((Z.setCell ⟨w.heap.size, 0, none⟩ (.int .i64 lsn)).setCell ⟨w.heap.size, 1, none⟩ (.slice Av mv cv)).setCell ⟨w.heap.size, 2, none⟩ (.slice (some ⟨NB, 0, none⟩) 1 1)) (some w.heap.size) from gset (gset (gset (World.grownBy.refl Z _) 0 _) 1 _) 2 _)
        rw [← hZ]
        clear hZ r0 r1 r2 rz x0 x1 x2 xz k0 k1 k2 k3 k4 k5 k6 k7 k8 kz
        obtain ⟨x0, x1, x2, xz⟩ := KXz.out.c3
        obtain ⟨z0, z1, z2, zz⟩ := KRz.out.c3
        go_wp2_with fail
        refine bodyPost_ret (by simp [results, Try.results108, go_sem, f0, f1, f2]; try rfl) rfl ?_
        have hNR : NB ≠ w.heap.size := by omega
        have GWF := grown_far GW.out GF.out (fun k hk => by injection hk with hk; omega)
        have OF := OZ.out.kept GF.out (fun k hk => ⟨fun e => by injection hk with hk; have h1 := OZ.out.row_ge e; omega, id⟩)
        have hs1 := BE.out.size
        have hs2 := GZ.out.size
        have hs3 := GF.out.size
        have hs4 := B1.out.size
        obtain ⟨A9, c9, hv9, _, _, sl9⟩ := OF.isSl (S' := fun k => w.heap.size ≤ k ∧ k < (((Z.setCell ⟨w.heap.size, 0, none⟩ (.int .i64 lsn)).setCell ⟨w.heap.size, 1, none⟩ (.slice Av mv cv)).setCell ⟨w.heap.size, 2, none⟩ (.slice (some ⟨NB, 0, none⟩) 1 1)).heap.size) (fun _ h => h.elim) (fun k h1 h2 => ⟨by omega, h2⟩)
        injection hv9 with q1 q2 q3
        subst q1
        rw [← q2] at sl9
        have hKN := KNz.out.grown GF.out (fun k hk => fun e => hNR (by injection hk with hk; omega))
        have hKG := KGz.out.grown GF.out (fun k hk => fun e => hgR (by injection hk with hk; omega))
        refine ⟨_, rfl, ⟨_, _, _, _, _, _, by rw [HTELL.out], ?_, ?_⟩, ⟨none, 0, hKG, IsSl.nil, fun k hk => Nat.lt_of_lt_of_le (HA.out.hT k hk) GWF.size, HA.out.ng⟩, GWF⟩
        · rw [HTELL.out]
          exact sl9
        · rw [HTELL.out]
          exact IsSl.ofBlk1 hKN ⟨rfl, note_wf HWI.out.1 HWI.out.2.2.1⟩ ⟨by omega, hKN.lt⟩
  · obtain ⟨V, hV⟩ : ∃ V, V = ((W.alloc (.cells #[.int .i64 lsn, .slice none 0 0, .slice (some ⟨W.heap.size + 1, 0, none⟩) 1 1] 62)).alloc (.cells #[.int .i64 2, .int .i64 xi, .int .i64 0, .int .i64 0, .int .i64 0, .int .i64 xc, .bool xl] 91)).drew := ⟨_, rfl⟩
    have KN0 := Lib.hid (show Blk V (W.heap.size + 1) [.int .i64 2, .int .i64 xi, .int .i64 0, .int .i64 0, .int .i64 0, .int .i64 xc, .bool xl] by rw [hV]; exact (Blk.new rfl (by simp)).drew)
    have KX0 := Lib.hid (show Blk V (W.heap.size) [.int .i64 lsn, .slice none 0 0, .slice (some ⟨W.heap.size + 1, 0, none⟩) 1 1] by rw [hV]; exact ((Blk.new rfl rfl).alloc _).drew)
    have BV0 := Lib.hid (show Below W.heap.size W V by rw [hV]; exact below_drewN (((Below.refl _ _).alloc (Nat.le_refl _) _).alloc (by simp) _) 1)
    have hXN : W.heap.size ≠ W.heap.size + 1 := by omega
    rw [← hV]
    clear hV
    obtain ⟨NB, hNB⟩ : ∃ NB, NB = W.heap.size + 1 := ⟨_, rfl⟩
    rw [← hNB] at KX0 KN0 hXN ⊢
    obtain ⟨X, hX⟩ : ∃ X, X = W.heap.size := ⟨_, rfl⟩
    rw [← hX] at KX0 hXN ⊢
    have hX1 : W.heap.size ≤ X := by omega
    have hN1 : W.heap.size ≤ NB := by omega
    clear hX hNB
    have KG1 := Lib.hid (KG.out.after BV0.out)
    have KR1 := Lib.hid (KR.out.after BV0.out)
    have BV := Lib.hid (B1.out.trans (BV0.out.mono (Nat.le_of_lt hRs)))
    have hXV : X < V.heap.size := KX0.out.lt
    have hNV : NB < V.heap.size := KN0.out.lt
    have hRV : w.heap.size < V.heap.size := KR1.out.lt
    have hgV : g < V.heap.size := KG1.out.lt
    have hXg : X ≠ g := by omega
    have hXR : X ≠ w.heap.size := by omega
    have hRg : w.heap.size ≠ g := by omega
    obtain ⟨B0, hB0⟩ : ∃ B0, B0 = V.heap.size := ⟨_, rfl⟩
    rw [← hB0] at hXV hNV hRV hgV
    have HB0 := Lib.hid hB0
    obtain ⟨k0, k1, k2, k3, k4, k5, k6, k7, k8, kz⟩ := KG1.out.c9
    obtain ⟨x0, x1, x2, xz⟩ := KX0.out.c3
    clear hB0
    go_wp2_with fail
    go_loopw [9] (fun i wr => ∃ (p : Nat) (v2 : Value), i = .int .i64 p ∧ p ≤ nr ∧ Own oprRep wr B0 (fun _ => False) 71 v2 ((xr.take p).map (opOf lsn xt)) ∧ Blk wr X [.int .i64 lsn, v2, .slice (some ⟨NB, 0, none⟩) 1 1] ∧ Blk wr NB [.int .i64 2, .int .i64 xi, .int .i64 0, .int .i64 0, .int .i64 0, .int .i64 xc, .bool xl] ∧ V.grownBy wr (some X)) (fun i _ => nr - (intOf i).toNat)
    case atStart => exact ⟨0, _, rfl, Nat.zero_le _, Own.nil _ _ _ (fun _ h => h.elim) _ none, KX0.out, KN0.out, World.grownBy.refl V _⟩
    case round =>
      obtain ⟨p, v2, rfl, hp, hown, hkx, hkn, hbe⟩ := hrel
      have OW := Lib.hid hown
      have KX := Lib.hid hkx
      have KN := Lib.hid hkn
      have BE := Lib.hid hbe
      have HR2 := Lib.hid (show ∀ r, rowOf v2 = some r → B0 ≤ r from fun r hr => OW.out.row_ge hr)
      obtain ⟨x0, x1, x2, xz⟩ := KX.out.c3
      have hgV2 : g < V.heap.size := by rw [← HB0.out]; exact hgV
      have KGr := Lib.hid (KG1.out.grown hbe (fun k hk => fun e => hXg (by injection hk with hk; omega)))
      obtain ⟨k0, k1, k2, k3, k4, k5, k6, k7, k8, kz⟩ := KGr.out.c9
      have kV3 := KG1.out.1 3 _ rfl
      have kV8 := KG1.out.1 8 _ rfl
      have hsz : B0 ≤ wr.heap.size := Nat.le_trans (Nat.le_of_eq HB0.out) hbe.size
      clear hown hkx hkn hbe
      by_cases hlt : p < nr
      · have hd : decide ((p : Int) < (nr : Int)) = true := decide_eq_true (by omega)
        have hpi : (p : Int) < (nr : Int) := by omega
        obtain ⟨b0, off, y, rfl, hb0, hy, hwf, e0V, e1V⟩ := HRO.out.row (w' := V) hlt (fun q hq => BV.out.cell (HA.out.hT _ hq))
        have hb0w : b0 < w.heap.size := HA.out.hT _ hb0
        have hbV : b0 < V.heap.size := by have := BV.out.size; omega
        have hXb : X ≠ b0 := by omega
        have e0 := (World.cell?_of_block (a := ⟨b0, off + p * 2, none⟩) (BE.out.block b0 hbV (fun e => hXb (Option.some.inj e).symm))).trans e0V
        have e1 := (World.cell?_of_block (a := ⟨b0, off + p * 2 + 1, none⟩) (BE.out.block b0 hbV (fun e => hXb (Option.some.inj e).symm))).trans e1V
        have HTK := Lib.hid (show (xr.take (p + 1)).map (opOf lsn xt) = (xr.take p).map (opOf lsn xt) ++ [opOf lsn xt y] by rw [take_snoc hy, List.map_append]; rfl)
        have HWF := Lib.hid (show (opOf lsn xt y).wf from ⟨HWI.out.2.2.2, HWI.out.2.1, hwf.1, hwf.2⟩)
        have HLE := Lib.hid (show ((xr.take p).map (opOf lsn xt)).length ≤ 100000 by rw [List.length_map, List.length_take, ← HNR.out]; omega)
        obtain ⟨yk, yv⟩ := y
        dsimp only at e0 e1 e0V e1V
        clear hwf hy
        obtain ⟨acc, hacc⟩ : ∃ acc, acc = (xr.take p).map (opOf lsn xt) := ⟨_, rfl⟩
        rw [← hacc] at OW HTK HLE
        clear hacc
        have hle := HLE.out
        have hXr : X < wr.heap.size := by omega
        have hgr : g < wr.heap.size := by omega
        have hbr : b0 < wr.heap.size := by omega
        go_wp2_with fail
        have OWD := Lib.hid OW.out.drew
        have KXD := Lib.hid KX.out.drew
        have KND := Lib.hid KN.out.drew
        have hA : ∀ o : Obj, (wr.alloc o).cell? ⟨g, 3, none⟩ = some (.int .i64 xt) ∧ (wr.alloc o).cell? ⟨g, 8, none⟩ = some (.slice (some ⟨b0, off, none⟩) nr c0') ∧ (wr.alloc o).cell? ⟨b0, off + p * 2, none⟩ = some (.int .i64 yk) ∧ (wr.alloc o).cell? ⟨b0, off + p * 2 + 1, none⟩ = some (.string yv) := fun o => ⟨(KGr.out.alloc o).1 3 _ rfl, (KGr.out.alloc o).1 8 _ rfl, (((Below.refl _ _).alloc (Nat.le_refl _) _).cell (p := ⟨b0, _, none⟩) hbr).trans e0, (((Below.refl _ _).alloc (Nat.le_refl _) _).cell (p := ⟨b0, _, none⟩) hbr).trans e1⟩
        have hX1 : ∀ o : Obj, (wr.alloc o).cell? ⟨X, 1, none⟩ = some v2 := fun o => (KXD.out.alloc o).1 1 _ rfl
        have HSRC := Lib.hid (show Src oprRep (wr.drew.alloc (.cells #[.int .i64 lsn, .int .i64 xt, .int .i64 yk, .bool false, .string yv] 71)) (fun _ => False) (some ⟨wr.heap.size, 0, none⟩) 1 [opOf lsn xt ⟨yk, yv⟩] from Src.new (R := oprRep) (w := wr.drew) (e := 71) (S := fun _ => False) (a := opOf lsn xt ⟨yk, yv⟩) (cs := (opOf lsn xt ⟨yk, yv⟩).cells) ⟨rfl, HWF.out⟩)
        refine wp_region_held_drew (S := fun w' => w'.cell? ⟨g, 3, none⟩ = some (.int .i64 xt) ∧ w'.cell? ⟨g, 8, none⟩ = some (.slice (some ⟨b0, off, none⟩) nr c0') ∧ w'.cell? ⟨b0, off + p * 2, none⟩ = some (.int .i64 yk) ∧ w'.cell? ⟨b0, off + p * 2 + 1, none⟩ = some (.string yv)) (by kernel_rfl) ⟨k3, k8, e0, e1⟩ (fun hHeld => ?_)
        (refine wpAnyH_take (i := 0) (v := ?_) rfl (by kernel_rfl) (by kernel_rfl) (by kernel_rfl) (fun _ _ _ h => h) (Or.inl ⟨by rfl, ?_⟩) hHeld ?_; rotate_left 1; focus (intro w hSw; (try dsimp only at hSw); go_simp; try with_reducible rfl)); (try simp only [Act.put, List.setIfInBounds_toArray, List.set_cons_zero, List.set_cons_succ])
        (refine wpAnyH_take (i := 2) (v := ?_) rfl (by kernel_rfl) (by kernel_rfl) (by kernel_rfl) (fun _ _ _ h => h) (Or.inl ⟨by rfl, ?_⟩) hHeld ?_; rotate_left 1; focus (intro w hSw; (try dsimp only at hSw); go_simp; try with_reducible rfl)); (try simp only [Act.put, List.setIfInBounds_toArray, List.set_cons_zero, List.set_cons_succ])
        (refine wpAnyH_take (i := 3) (v := ?_) rfl (by kernel_rfl) (by kernel_rfl) (by kernel_rfl) (fun _ _ _ h => h) (Or.inl ⟨by rfl, ?_⟩) hHeld ?_; rotate_left 1; focus (intro w hSw; (try dsimp only at hSw); go_simp; try with_reducible rfl)); (try simp only [Act.put, List.setIfInBounds_toArray, List.set_cons_zero, List.set_cons_succ])
        (refine wpAnyH_take (i := 4) (v := ?_) rfl (by kernel_rfl) (by kernel_rfl) (by kernel_rfl) (fun _ _ _ h => h) (Or.inl ⟨by rfl, ?_⟩) hHeld ?_; rotate_left 1; focus (intro w hSw; (try dsimp only at hSw); go_simp; try with_reducible rfl)); (try simp only [Act.put, List.setIfInBounds_toArray, List.set_cons_zero, List.set_cons_succ])
        (refine wpAnyH_take (i := 5) (v := ?_) rfl (by kernel_rfl) (by kernel_rfl) (by kernel_rfl) (fun _ _ _ h => h) (Or.inl ⟨by rfl, ?_⟩) hHeld ?_; rotate_left 1; focus (intro w hSw; (try dsimp only at hSw); go_simp; try with_reducible rfl)); (try simp only [Act.put, List.setIfInBounds_toArray, List.set_cons_zero, List.set_cons_succ])
        (refine wpAnyH_take (i := 6) (v := ?_) rfl (by kernel_rfl) (by kernel_rfl) (by kernel_rfl) (fun _ _ _ h => h) (Or.inl ⟨by rfl, ?_⟩) hHeld ?_; rotate_left 1; focus (intro w hSw; (try dsimp only at hSw); go_simp; try with_reducible rfl)); (try simp only [Act.put, List.setIfInBounds_toArray, List.set_cons_zero, List.set_cons_succ])
        (refine wpAnyH_take (i := 7) (v := ?_) rfl (by kernel_rfl) (by kernel_rfl) (by kernel_rfl) (fun _ _ _ h => h) (Or.inl ⟨by rfl, ?_⟩) hHeld ?_; rotate_left 1; focus (intro w hSw; (try dsimp only at hSw); go_simp; try with_reducible rfl)); (try simp only [Act.put, List.setIfInBounds_toArray, List.set_cons_zero, List.set_cons_succ])
        (refine wpAnyH_take (i := 8) (v := ?_) rfl (by kernel_rfl) (by kernel_rfl) (by kernel_rfl) (fun _ _ _ h => h) (Or.inl ⟨by rfl, ?_⟩) hHeld ?_; rotate_left 1; focus (intro w hSw; (try dsimp only at hSw); go_simp; try with_reducible rfl)); (try simp only [Act.put, List.setIfInBounds_toArray, List.set_cons_zero, List.set_cons_succ])
        (refine wpAnyH_take (i := 9) (v := ?_) rfl (by kernel_rfl) (by kernel_rfl) (by kernel_rfl) (fun _ _ _ h => h) (Or.inl ⟨by rfl, ?_⟩) hHeld ?_; rotate_left 1; focus (intro w hSw; (try dsimp only at hSw); go_simp; try with_reducible rfl)); (try simp only [Act.put, List.setIfInBounds_toArray, List.set_cons_zero, List.set_cons_succ])
        (refine wpAnyH_take (i := 10) (v := ?_) rfl (by kernel_rfl) (by kernel_rfl) (by kernel_rfl) (fun _ _ _ h => h) (Or.inl ⟨by rfl, ?_⟩) hHeld ?_; rotate_left 1; focus (intro w hSw; (try dsimp only at hSw); go_simp; try with_reducible rfl)); (try simp only [Act.put, List.setIfInBounds_toArray, List.set_cons_zero, List.set_cons_succ])
        (refine wpAnyH_take (i := 11) (v := ?_) rfl (by kernel_rfl) (by kernel_rfl) (by kernel_rfl) (fun _ _ _ h => h) (Or.inl ⟨by rfl, ?_⟩) hHeld ?_; rotate_left 1; focus (intro w hSw; (try dsimp only at hSw); go_simp; try with_reducible rfl)); (try simp only [Act.put, List.setIfInBounds_toArray, List.set_cons_zero, List.set_cons_succ])
        (refine wpAnyH_take (i := 12) (v := ?_) rfl (by kernel_rfl) (by kernel_rfl) (by kernel_rfl) (fun _ _ _ h => h) (Or.inl ⟨by rfl, ?_⟩) hHeld ?_; rotate_left 1; focus (intro w hSw; (try dsimp only at hSw); go_simp; try with_reducible rfl)); (try simp only [Act.put, List.setIfInBounds_toArray, List.set_cons_zero, List.set_cons_succ])
        (refine wpAnyH_take (i := 13) (v := ?_) rfl (by kernel_rfl) (by kernel_rfl) (by kernel_rfl) (fun _ _ _ h => h) (Or.inl ⟨by rfl, ?_⟩) hHeld ?_; rotate_left 1; focus (intro w hSw; (try dsimp only at hSw); go_simp; try with_reducible rfl)); (try simp only [Act.put, List.setIfInBounds_toArray, List.set_cons_zero, List.set_cons_succ])
        (refine wpAnyH_take (i := 14) (v := ?_) rfl (by kernel_rfl) (by kernel_rfl) (by kernel_rfl) (fun _ _ _ h => h) (Or.inl ⟨by rfl, ?_⟩) hHeld ?_; rotate_left 1; focus (intro w hSw; (try dsimp only at hSw); go_simp; try with_reducible rfl)); (try simp only [Act.put, List.setIfInBounds_toArray, List.set_cons_zero, List.set_cons_succ])
        (refine wpAnyH_take (i := 15) (v := ?_) rfl (by kernel_rfl) (by kernel_rfl) (by kernel_rfl) (fun _ _ _ h => h) (Or.inl ⟨by rfl, ?_⟩) hHeld ?_; rotate_left 1; focus (intro w hSw; (try dsimp only at hSw); go_simp; try with_reducible rfl)); (try simp only [Act.put, List.setIfInBounds_toArray, List.set_cons_zero, List.set_cons_succ])
        (refine wpAnyH_take (i := 16) (v := ?_) rfl (by kernel_rfl) (by kernel_rfl) (by kernel_rfl) (fun _ _ _ h => h) (Or.inl ⟨by rfl, ?_⟩) hHeld ?_; rotate_left 1; focus (intro w hSw; (try dsimp only at hSw); go_simp; try with_reducible rfl)); (try simp only [Act.put, List.setIfInBounds_toArray, List.set_cons_zero, List.set_cons_succ])
        (refine wpAnyH_take (i := 17) (v := ?_) rfl (by kernel_rfl) (by kernel_rfl) (by kernel_rfl) (fun _ _ _ h => h) (Or.inl ⟨by rfl, ?_⟩) hHeld ?_; rotate_left 1; focus (intro w hSw; (try dsimp only at hSw); go_simp; try with_reducible rfl)); (try simp only [Act.put, List.setIfInBounds_toArray, List.set_cons_zero, List.set_cons_succ])
        (refine wpAnyH_take (i := 18) (v := ?_) rfl (by kernel_rfl) (by kernel_rfl) (by kernel_rfl) (fun _ _ _ h => h) (Or.inl ⟨by rfl, ?_⟩) hHeld ?_; rotate_left 1; focus (intro w hSw; (try dsimp only at hSw); go_simp; try with_reducible rfl)); (try simp only [Act.put, List.setIfInBounds_toArray, List.set_cons_zero, List.set_cons_succ])
        (refine wpAnyH_take (i := 19) (v := ?_) rfl (by kernel_rfl) (by kernel_rfl) (by kernel_rfl) (fun _ _ _ h => h) (Or.inl ⟨by rfl, ?_⟩) hHeld ?_; rotate_left 1; focus (intro w hSw; (try dsimp only at hSw); go_simp; try with_reducible rfl)); (try simp only [Act.put, List.setIfInBounds_toArray, List.set_cons_zero, List.set_cons_succ])
        (refine wpAnyH_take (i := 20) (v := ?_) rfl (by kernel_rfl) (by kernel_rfl) (by kernel_rfl) (fun _ _ _ h => h) (Or.inl ⟨by rfl, ?_⟩) hHeld ?_; rotate_left 1; focus (intro w hSw; (try dsimp only at hSw); go_simp; try with_reducible rfl)); (try simp only [Act.put, List.setIfInBounds_toArray, List.set_cons_zero, List.set_cons_succ])
        (refine wpAnyH_take (i := 21) (v := ?_) rfl (by kernel_rfl) (by kernel_rfl) (by kernel_rfl) (fun _ _ _ h => h) (Or.inl ⟨by rfl, ?_⟩) hHeld ?_; rotate_left 1; focus (intro w hSw; (try dsimp only at hSw); go_simp; try with_reducible rfl)); (try simp only [Act.put, List.setIfInBounds_toArray, List.set_cons_zero, List.set_cons_succ])
        (refine wpAnyH_take (i := 22) (v := ?_) rfl (by kernel_rfl) (by kernel_rfl) (by kernel_rfl) (fun _ _ _ h => h) (Or.inl ⟨by rfl, ?_⟩) hHeld ?_; rotate_left 1; focus (intro w hSw; (try dsimp only at hSw); go_simp; try with_reducible rfl)); (try simp only [Act.put, List.setIfInBounds_toArray, List.set_cons_zero, List.set_cons_succ])
        (refine wpAnyH_take (i := 23) (v := ?_) rfl (by kernel_rfl) (by kernel_rfl) (by kernel_rfl) (fun _ _ _ h => h) (Or.inl ⟨by rfl, ?_⟩) hHeld ?_; rotate_left 1; focus (intro w hSw; (try dsimp only at hSw); go_simp; try with_reducible rfl)); (try simp only [Act.put, List.setIfInBounds_toArray, List.set_cons_zero, List.set_cons_succ])
        refine wpAnyH_ready (rs := [1, 24]) (by kernel_rfl) (by simp) ?_
        refine AllReadyH.cons rfl (fun K hK => ?_) (AllReadyH.cons rfl (fun K hK => ?_) AllReadyH.nil)
        · go_simp
          refine hK.out _ _ hHeld (fun _ => ?_)
          clear hK K
          refine wpAnyH_ready (rs := [24]) (by kernel_rfl) (by simp) ?_
          refine AllReadyH.cons rfl (fun K hK => ?_) AllReadyH.nil
          go_simp
          refine hK.out _ _ (hA _) (fun _ => ?_)
          clear hK K
          refine wpAnyH_ready (rs := [25]) (by kernel_rfl) (by simp) ?_
          refine AllReadyH.cons rfl (fun K hK => ?_) AllReadyH.nil
          refine step_append_Own (w := wr.drew.alloc (.cells #[.int .i64 lsn, .int .i64 xt, .int .i64 yk, .bool false, .string yv] 71)) rfl (.tmp 58) (.tmp 81) 59 rfl B0 71 i0 _ 48 Try.underlying59 hi hz0 hz1 hz2 rfl (R := oprRep) (S := fun _ => False) (l := acc) (l' := [opOf lsn xt ⟨yk, yv⟩]) v2 rfl (OWD.out.alloc _) _ 1 1 rfl HSRC.out (by simp only [maxLen]; omega) (by omega) (by omega) (by show B0 ≤ (wr.alloc _).heap.size; simp; omega) ?_
          intro v9 w9 own9 gr9 at9
          obtain ⟨A9, c9, hv9, hlc9, hcm9, sl9⟩ := own9.isSlB
          obtain ⟨m9, hm9⟩ : ∃ m9, m9 = (acc ++ [opOf lsn xt ⟨yk, yv⟩]).length := ⟨_, rfl⟩
          rw [← hm9] at hv9
          subst hv9
          clear hm9 hlc9 hcm9 sl9
          have KX9 := Lib.hid ((KXD.out.alloc _).grown gr9 (fun k hk e => by have := HR2.out k hk; omega))
          have KN9 := Lib.hid ((KND.out.alloc _).grown gr9 (fun k hk e => by have := HR2.out k hk; omega))
          have BE9 := Lib.hid (grown_far (grown_trans (grown_drew BE.out) (grown_of_below ((Below.refl _ _).alloc (Nat.le_refl _) _) _)) gr9 (fun k hk => by rw [← HB0.out]; exact HR2.out k hk))
          have OW9 := Lib.hid own9
          have hs9 : B0 ≤ w9.heap.size := by have h9 := gr9.size; simp at h9; omega
          have hgk : w9.cell? ⟨g, 3, none⟩ = some (.int .i64 xt) ∧ w9.cell? ⟨g, 8, none⟩ = some (.slice (some ⟨b0, off, none⟩) nr c0') ∧ w9.cell? ⟨b0, off + p * 2, none⟩ = some (.int .i64 yk) ∧ w9.cell? ⟨b0, off + p * 2 + 1, none⟩ = some (.string yv) := ⟨(World.cell?_of_block (BE9.out.block g hgV2 (fun e => hXg (Option.some.inj e).symm))).trans kV3, (World.cell?_of_block (BE9.out.block g hgV2 (fun e => hXg (Option.some.inj e).symm))).trans kV8, (World.cell?_of_block (BE9.out.block b0 hbV (fun e => hXb (Option.some.inj e).symm))).trans e0V, (World.cell?_of_block (BE9.out.block b0 hbV (fun e => hXb (Option.some.inj e).symm))).trans e1V⟩
          have hgx : ∀ v : Value, (w9.setCell ⟨X, 1, none⟩ v).cell? ⟨g, 3, none⟩ = some (.int .i64 xt) ∧ (w9.setCell ⟨X, 1, none⟩ v).cell? ⟨g, 8, none⟩ = some (.slice (some ⟨b0, off, none⟩) nr c0') ∧ (w9.setCell ⟨X, 1, none⟩ v).cell? ⟨b0, off + p * 2, none⟩ = some (.int .i64 yk) ∧ (w9.setCell ⟨X, 1, none⟩ v).cell? ⟨b0, off + p * 2 + 1, none⟩ = some (.string yv) := fun v => ⟨(World.cell?_setCell_far w9 _ _ v hXg).trans hgk.1, (World.cell?_setCell_far w9 _ _ v hXg).trans hgk.2.1, (World.cell?_setCell_far w9 _ _ v hXb).trans hgk.2.2.1, (World.cell?_setCell_far w9 _ _ v hXb).trans hgk.2.2.2⟩
          clear own9 gr9 at9
          obtain ⟨x0, x1, x2, xz⟩ := KX9.out.c3
          refine hK.out _ _ hgk (fun hHeld9 => ?_)
          clear hK K
          (refine wpAnyH_take (i := 26) (v := ?_) rfl (by kernel_rfl) (by kernel_rfl) (by kernel_rfl) (fun _ _ _ h => h) (Or.inl ⟨by rfl, ?_⟩) hHeld9 ?_; rotate_left 1; focus (intro w hSw; (try dsimp only at hSw); go_simp; try with_reducible rfl)); (try simp only [Act.put, List.setIfInBounds_toArray, List.set_cons_zero, List.set_cons_succ])
          refine wpAnyH_ready (rs := [27]) (by kernel_rfl) (by simp) ?_
          refine AllReadyH.cons rfl (fun K hK => ?_) AllReadyH.nil
          go_simp
          refine hK.out _ _ (hgx _) (fun _ => ?_)
          clear hK K
          refine wpAnyH_done (by kernel_rfl) ?_ _
          go_wp2_with fail
          go_roundw
          case rel => exact ⟨p + 1, .slice A9 m9 c9, by go_num, by omega, by rw [HTK.out]; exact OW9.out.kept (grownBy_set w9 ⟨X, 1, none⟩ _) (fun k hk => ⟨fun e => (by have h1 := OW9.out.row_ge e; injection hk with hk; dsimp only at hk; omega), id⟩), KX9.out.put (by simp) _ rfl, KN9.out.other (Ne.symm hXN) 1 _, gset BE9.out 1 _⟩
          case measure => simp [intOf]; omega
        · go_simp
          refine hK.out _ _ (hA _) (fun _ => ?_)
          clear hK K
          refine wpAnyH_ready (rs := [1]) (by kernel_rfl) (by simp) ?_
          refine AllReadyH.cons rfl (fun K hK => ?_) AllReadyH.nil
          go_simp
          refine hK.out _ _ (hA _) (fun _ => ?_)
          clear hK K
          refine wpAnyH_ready (rs := [25]) (by kernel_rfl) (by simp) ?_
          refine AllReadyH.cons rfl (fun K hK => ?_) AllReadyH.nil
          refine step_append_Own (w := wr.drew.alloc (.cells #[.int .i64 lsn, .int .i64 xt, .int .i64 yk, .bool false, .string yv] 71)) rfl (.tmp 58) (.tmp 81) 59 rfl B0 71 i0 _ 48 Try.underlying59 hi hz0 hz1 hz2 rfl (R := oprRep) (S := fun _ => False) (l := acc) (l' := [opOf lsn xt ⟨yk, yv⟩]) v2 rfl (OWD.out.alloc _) _ 1 1 rfl HSRC.out (by simp only [maxLen]; omega) (by omega) (by omega) (by show B0 ≤ (wr.alloc _).heap.size; simp; omega) ?_
          intro v9 w9 own9 gr9 at9
          obtain ⟨A9, c9, hv9, hlc9, hcm9, sl9⟩ := own9.isSlB
          obtain ⟨m9, hm9⟩ : ∃ m9, m9 = (acc ++ [opOf lsn xt ⟨yk, yv⟩]).length := ⟨_, rfl⟩
          rw [← hm9] at hv9
          subst hv9
          clear hm9 hlc9 hcm9 sl9
          have KX9 := Lib.hid ((KXD.out.alloc _).grown gr9 (fun k hk e => by have := HR2.out k hk; omega))
          have KN9 := Lib.hid ((KND.out.alloc _).grown gr9 (fun k hk e => by have := HR2.out k hk; omega))
          have BE9 := Lib.hid (grown_far (grown_trans (grown_drew BE.out) (grown_of_below ((Below.refl _ _).alloc (Nat.le_refl _) _) _)) gr9 (fun k hk => by rw [← HB0.out]; exact HR2.out k hk))
          have OW9 := Lib.hid own9
          have hs9 : B0 ≤ w9.heap.size := by have h9 := gr9.size; simp at h9; omega
          have hgk : w9.cell? ⟨g, 3, none⟩ = some (.int .i64 xt) ∧ w9.cell? ⟨g, 8, none⟩ = some (.slice (some ⟨b0, off, none⟩) nr c0') ∧ w9.cell? ⟨b0, off + p * 2, none⟩ = some (.int .i64 yk) ∧ w9.cell? ⟨b0, off + p * 2 + 1, none⟩ = some (.string yv) := ⟨(World.cell?_of_block (BE9.out.block g hgV2 (fun e => hXg (Option.some.inj e).symm))).trans kV3, (World.cell?_of_block (BE9.out.block g hgV2 (fun e => hXg (Option.some.inj e).symm))).trans kV8, (World.cell?_of_block (BE9.out.block b0 hbV (fun e => hXb (Option.some.inj e).symm))).trans e0V, (World.cell?_of_block (BE9.out.block b0 hbV (fun e => hXb (Option.some.inj e).symm))).trans e1V⟩
          have hgx : ∀ v : Value, (w9.setCell ⟨X, 1, none⟩ v).cell? ⟨g, 3, none⟩ = some (.int .i64 xt) ∧ (w9.setCell ⟨X, 1, none⟩ v).cell? ⟨g, 8, none⟩ = some (.slice (some ⟨b0, off, none⟩) nr c0') ∧ (w9.setCell ⟨X, 1, none⟩ v).cell? ⟨b0, off + p * 2, none⟩ = some (.int .i64 yk) ∧ (w9.setCell ⟨X, 1, none⟩ v).cell? ⟨b0, off + p * 2 + 1, none⟩ = some (.string yv) := fun v => ⟨(World.cell?_setCell_far w9 _ _ v hXg).trans hgk.1, (World.cell?_setCell_far w9 _ _ v hXg).trans hgk.2.1, (World.cell?_setCell_far w9 _ _ v hXb).trans hgk.2.2.1, (World.cell?_setCell_far w9 _ _ v hXb).trans hgk.2.2.2⟩
          clear own9 gr9 at9
          obtain ⟨x0, x1, x2, xz⟩ := KX9.out.c3
          refine hK.out _ _ hgk (fun hHeld9 => ?_)
          clear hK K
          (refine wpAnyH_take (i := 26) (v := ?_) rfl (by kernel_rfl) (by kernel_rfl) (by kernel_rfl) (fun _ _ _ h => h) (Or.inl ⟨by rfl, ?_⟩) hHeld9 ?_; rotate_left 1; focus (intro w hSw; (try dsimp only at hSw); go_simp; try with_reducible rfl)); (try simp only [Act.put, List.setIfInBounds_toArray, List.set_cons_zero, List.set_cons_succ])
          refine wpAnyH_ready (rs := [27]) (by kernel_rfl) (by simp) ?_
          refine AllReadyH.cons rfl (fun K hK => ?_) AllReadyH.nil
          go_simp
          refine hK.out _ _ (hgx _) (fun _ => ?_)
          clear hK K
          refine wpAnyH_done (by kernel_rfl) ?_ _
          go_wp2_with fail
          go_roundw
          case rel => exact ⟨p + 1, .slice A9 m9 c9, by go_num, by omega, by rw [HTK.out]; exact OW9.out.kept (grownBy_set w9 ⟨X, 1, none⟩ _) (fun k hk => ⟨fun e => (by have h1 := OW9.out.row_ge e; injection hk with hk; dsimp only at hk; omega), id⟩), KX9.out.put (by simp) _ rfl, KN9.out.other (Ne.symm hXN) 1 _, gset BE9.out 1 _⟩
          case measure => simp [intOf]; omega
      · obtain rfl : nr = p := by omega
        have hd : decide ((nr : Int) < (nr : Int)) = false := by simp
        have hRV2 : w.heap.size < V.heap.size := by rw [← HB0.out]; exact hRV
        have KRr := Lib.hid (KR1.out.grown BE.out (fun k hk => fun e => hXR (by injection hk with hk; omega)))
        obtain ⟨r0, r1, r2, rz⟩ := KRr.out.c3
        have hRX : w.heap.size ≠ X := Ne.symm hXR
        have htj : xr.take nr = xr := List.take_of_length_le (by rw [← HNR.out]; exact Nat.le_refl _)
        rw [htj] at OW
        obtain ⟨Av, cv, hv2, _, _, _⟩ := OW.out.isSlB
        obtain ⟨mv, hmv⟩ : ∃ mv, mv = (xr.map (opOf lsn xt)).length := ⟨_, rfl⟩
        rw [← hmv] at hv2
        subst hv2
        clear hmv htj hlt
        go_upto_region 9 with fail
        obtain ⟨Z, hZ⟩ : ∃ Z, Z = (((((((((wr.setCell ⟨g, 0, none⟩ (.int .i64 xn)).setCell ⟨g, 1, none⟩ (.int .i64 0)).setCell ⟨g, 2, none⟩ (.int .i64 0)).setCell ⟨g, 3, none⟩ (.int .i64 0)).setCell ⟨g, 4, none⟩ (.int .i64 0)).setCell ⟨g, 5, none⟩ (.int .i64 0)).setCell ⟨g, 6, none⟩ (.int .i64 0)).setCell ⟨g, 7, none⟩ (.bool false)).setCell ⟨g, 8, none⟩ (.slice none 0 0)) := ⟨_, rfl⟩
        have hgX : g ≠ X := Ne.symm hXg
        have hgR : g ≠ w.heap.size := Ne.symm hRg
        have KXz := Lib.hid (show Blk Z X [.int .i64 lsn, .slice Av mv cv, .slice (some ⟨NB, 0, none⟩) 1 1] by rw [hZ]; exact (((((((((KX.out.other hXg 0 _).other hXg 1 _).other hXg 2 _).other hXg 3 _).other hXg 4 _).other hXg 5 _).other hXg 6 _).other hXg 7 _).other hXg 8 _))
        have KRz := Lib.hid (show Blk Z w.heap.size [.int .i64 0, .slice none 0 0, .slice none 0 0] by rw [hZ]; exact (((((((((KRr.out.other hRg 0 _).other hRg 1 _).other hRg 2 _).other hRg 3 _).other hRg 4 _).other hRg 5 _).other hRg 6 _).other hRg 7 _).other hRg 8 _))
        have KGz := Lib.hid (show Blk Z g [.int .i64 xn, .int .i64 0, .int .i64 0, .int .i64 0, .int .i64 0, .int .i64 0, .int .i64 0, .bool false, .slice none 0 0] by rw [hZ]; exact (((((((((KGr.out.put (j := 0) (by simp) _ rfl).put (j := 1) (by simp) _ rfl).put (j := 2) (by simp) _ rfl).put (j := 3) (by simp) _ rfl).put (j := 4) (by simp) _ rfl).put (j := 5) (by simp) _ rfl).put (j := 6) (by simp) _ rfl).put (j := 7) (by simp) _ rfl).put (j := 8) (by simp) _ rfl))
        have GZ := Lib.hid (show wr.grownBy Z (some g) by rw [hZ]; exact (gset (gset (gset (gset (gset (gset (gset (gset (gset (World.grownBy.refl wr _) 0 _) 1 _) 2 _) 3 _) 4 _) 5 _) 6 _) 7 _) 8 _))
        have GW := Lib.hid (show w.grownBy Z (some g) from grown_trans (grown_far (grown_of_below BV.out _) BE.out (fun k hk => by injection hk with hk; have := B1.out.size; omega)) GZ.out)
        have hNg : NB ≠ g := by omega
        have KNz := Lib.hid (show Blk Z NB [.int .i64 2, .int .i64 xi, .int .i64 0, .int .i64 0, .int .i64 0, .int .i64 xc, .bool xl] from KN.out.grown GZ.out (fun k hk => fun e => hNg (by injection hk with hk; omega)))
        have OZ := Lib.hid (OW.out.kept GZ.out (fun k hk => ⟨fun e => by injection hk with hk; have h1 := OW.out.row_ge e; omega, id⟩))
        have FR := Lib.hid (show Blk (((Z.setCell ⟨w.heap.size, 0, none⟩ (.int .i64 lsn)).setCell ⟨w.heap.size, 1, none⟩ (.slice Av mv cv)).setCell ⟨w.heap.size, 2, none⟩ (.slice (some ⟨NB, 0, none⟩) 1 1)) w.heap.size [.int .i64 lsn, .slice Av mv cv, .slice (some ⟨NB, 0, none⟩) 1 1] from (((KRz.out.put (j := 0) (by simp) _ rfl).put (j := 1) (by simp) _ rfl).put (j := 2) (by simp) _ rfl))
        obtain ⟨f0, f1, f2, fz⟩ := FR.out.c3
        have GF := Lib.hid (show Z.grownBy (((Z.setCell ⟨w.heap.size, 0, none⟩ (.int .i64 lsn)).setCell ⟨w.heap.size, 1, none⟩ (.slice Av mv cv)).setCell ⟨w.heap.size, 2, none⟩ (.slice (some ⟨NB, 0, none⟩) 1 1)) (some w.heap.size) from gset (gset (gset (World.grownBy.refl Z _) 0 _) 1 _) 2 _)
        rw [← hZ]
        clear hZ r0 r1 r2 rz x0 x1 x2 xz k0 k1 k2 k3 k4 k5 k6 k7 k8 kz
        obtain ⟨x0, x1, x2, xz⟩ := KXz.out.c3
        obtain ⟨z0, z1, z2, zz⟩ := KRz.out.c3
        go_wp2_with fail
        refine bodyPost_ret (by simp [results, Try.results108, go_sem, f0, f1, f2]; try rfl) rfl ?_
        have hNR : NB ≠ w.heap.size := by omega
        have GWF := grown_far GW.out GF.out (fun k hk => by injection hk with hk; omega)
        have OF := OZ.out.kept GF.out (fun k hk => ⟨fun e => by injection hk with hk; have h1 := OZ.out.row_ge e; omega, id⟩)
        have hs1 := BE.out.size
        have hs2 := GZ.out.size
        have hs3 := GF.out.size
        have hs4 := B1.out.size
        obtain ⟨A9, c9, hv9, _, _, sl9⟩ := OF.isSl (S' := fun k => w.heap.size ≤ k ∧ k < (((Z.setCell ⟨w.heap.size, 0, none⟩ (.int .i64 lsn)).setCell ⟨w.heap.size, 1, none⟩ (.slice Av mv cv)).setCell ⟨w.heap.size, 2, none⟩ (.slice (some ⟨NB, 0, none⟩) 1 1)).heap.size) (fun _ h => h.elim) (fun k h1 h2 => ⟨by omega, h2⟩)
        injection hv9 with q1 q2 q3
        subst q1
        rw [← q2] at sl9
        have hKN := KNz.out.grown GF.out (fun k hk => fun e => hNR (by injection hk with hk; omega))
        have hKG := KGz.out.grown GF.out (fun k hk => fun e => hgR (by injection hk with hk; omega))
        refine ⟨_, rfl, ⟨_, _, _, _, _, _, by rw [HTELL.out], ?_, ?_⟩, ⟨none, 0, hKG, IsSl.nil, fun k hk => Nat.lt_of_lt_of_le (HA.out.hT k hk) GWF.size, HA.out.ng⟩, GWF⟩
        · rw [HTELL.out]
          exact sl9
        · rw [HTELL.out]
          exact IsSl.ofBlk1 hKN ⟨rfl, note_wf HWI.out.1 HWI.out.2.2.1⟩ ⟨by omega, hKN.lt⟩
end Go.Proofs.Ythhpddiicnjmmaa

set_option linter.unusedVariables false
set_option linter.unusedSimpArgs false
namespace Go.Proofs.Ythhpddiicnjmmaa
open Go.RowKit

theorem refhigh_any (g : Nat) (T : Nat → Prop) (x : Win) (mark lsn : Int) (w : World) (h : RefIn w T g x) (hn : x.rows.length ≤ 100000) (hi : I64 x.id) (ht : I64 x.table) (hc : I64 x.cursor) :
    Calls Try.prog 108 #[.pointer (some ⟨g, 0, none⟩), .int .i64 mark, .int .i64 lsn] w fun e w' => ∃ A n c A2 n2 c2, e = .returned (.tuple #[.agg #[.int .i64 (x.tell mark lsn).lsn, .slice A n c, .slice A2 n2 c2], .bool (x.highOk mark lsn)]) ∧ IsSl oprRep w' (fun k => w.heap.size ≤ k ∧ k < w'.heap.size) A n (x.tell mark lsn).ops ∧ IsSl noteRep w' (fun k => w.heap.size ≤ k ∧ k < w'.heap.size) A2 n2 (x.tell mark lsn).notes ∧ RefIn w' T g (x.told mark lsn) ∧ w.grownBy w' (some g) := by
  by_cases hk : x.highOk mark lsn = true
  · refine (refhigh_ok g T x mark lsn w h hk hn hi ht hc).mono ?_
    rintro e w' ⟨v, rfl, ⟨A, n, c, A2, n2, c2, rfl, s1, s2⟩, own, gr⟩
    exact ⟨A, n, c, A2, n2, c2, by rw [hk], s1, s2, by unfold Win.told; rw [if_pos hk]; exact own, gr⟩
  · have hf : x.highOk mark lsn = false := by simpa using hk
    refine (refhigh_no g T x mark lsn w h hf).mono ?_
    rintro e w' ⟨rfl, bel⟩
    have ht : x.tell mark lsn = ⟨0, [], []⟩ := if_neg hk
    rw [ht]
    exact ⟨none, 0, 0, none, 0, 0, by rw [hf], IsSl.nil, IsSl.nil, by unfold Win.told; rw [if_neg hk]; exact h.below bel, grown_of_below bel _⟩

/-- Two items that are alike are told to be. -/
theorem item_any (lsn : Int) (A A2 B B2 : Option Addr) (n n2 c c2 m m2 d d2 : Nat) (ops : List Opr) (notes : List Note) (w : World) (h1 : IsSl oprRep w (· < w.heap.size) A n ops) (h2 : IsSl oprRep w (· < w.heap.size) B m ops) (h3 : IsSl noteRep w (· < w.heap.size) A2 n2 notes) (h4 : IsSl noteRep w (· < w.heap.size) B2 m2 notes) (hn : n ≤ 281474976710656) (hn2 : n2 ≤ 281474976710656) :
    Calls Try.prog 48 #[.agg #[.int .i64 lsn, .slice A n c, .slice A2 n2 c2], .agg #[.int .i64 lsn, .slice B m d, .slice B2 m2 d2]] w fun e w' => e = .returned (.bool true) ∧ Below w.heap.size w w' := by
  obtain ⟨W, hW⟩ : ∃ W, W = (w.alloc (.cells #[.int .i64 lsn, .slice A n c, .slice A2 n2 c2] 62)).alloc (.cells #[.int .i64 lsn, .slice B m d, .slice B2 m2 d2] 62) := ⟨_, rfl⟩
  have B1 := Lib.hid (show Below w.heap.size w W by rw [hW]; exact ((Below.refl _ _).alloc (Nat.le_refl _) _).alloc (by simp) _)
  have K1 := Lib.hid (show Blk W w.heap.size [.int .i64 lsn, .slice A n c, .slice A2 n2 c2] by rw [hW]; exact (Blk.new rfl rfl).alloc _)
  have K2 := Lib.hid (show Blk W (w.heap.size + 1) [.int .i64 lsn, .slice B m d, .slice B2 m2 d2] by rw [hW]; exact Blk.new rfl (by simp))
  have HW := Lib.hid hW
  have H1 := Lib.hid ((h1.below B1.out).more B1.out.size)
  have H2 := Lib.hid ((h2.below B1.out).more B1.out.size)
  have H3 := Lib.hid ((h3.below B1.out).more B1.out.size)
  have H4 := Lib.hid ((h4.below B1.out).more B1.out.size)
  clear hW h1 h2 h3 h4
  obtain ⟨a0, a1, a2, az⟩ := K1.out.c3
  obtain ⟨b0, b1, b2, bz⟩ := K2.out.c3
  go_enter Try.func48, Try.ntmps48
  go_upto_region 1 with fail
  rw [← HW.out]
  go_wp2_with (first
    | (go_at_call 110; (with_reducible refine (plain_opr A B n m c d ops W H1.out H2.out hn).mono ?_); rintro e w2 ⟨rfl, bel⟩; have BW2 := Lib.hid (B1.out.trans (bel.mono B1.out.size)); have H32 := Lib.hid ((H3.out.below bel).more bel.size); have H42 := Lib.hid ((H4.out.below bel).more bel.size); obtain ⟨a0, a1, a2, az⟩ := (K1.out.after bel).c3; obtain ⟨b0, b1, b2, bz⟩ := (K2.out.after bel).c3; clear bel)
    | (go_at_call 111; (with_reducible refine (plain_note A2 B2 n2 m2 c2 d2 notes w2 H32.out H42.out hn2).mono ?_); rintro e w3 ⟨rfl, bel⟩; have BW3 := Lib.hid (BW2.out.trans (bel.mono BW2.out.size)); clear bel)
    | fail)
  go_ret
  exact ⟨rfl, BW3.out⟩

/-- A window at g, the reference's at gx. -/
structure Pair (w0 w : World) (S : Nat → Prop) (g gx : Nat) (x y : Win) : Prop where
  win : WS w0 w S g x
  ref : ∃ T, RefIn w T gx y ∧ ∀ k, T k → S k
  inS : S gx
  base : w0.heap.size ≤ gx

section
variable {w0 w w' : World} {S : Nat → Prop} {g gx : Nat} {x x' y y' : Win}
theorem Pair.winStep (h : Pair w0 w S g gx x y) (o : WS w0 w' S g x') (r : Rest S w w') : Pair w0 w' S g gx x' y := by
  obtain ⟨T, hr, hT⟩ := h.ref
  exact ⟨o, ⟨T, hr.rest r hT h.inS, hT⟩, h.inS, h.base⟩
theorem Pair.below (h : Pair w0 w S g gx x y) (hb : Below w.heap.size w w') : Pair w0 w' (fun k => S k ∨ (w.heap.size ≤ k ∧ k < w'.heap.size)) g gx x y := by
  obtain ⟨T, hr, hT⟩ := h.ref
  exact ⟨h.win.step hb, ⟨T, hr.below hb, fun k hk => .inl (hT k hk)⟩, .inl h.inS, h.base⟩
theorem WinAt.gby {w w' : World} {S : Nat → Prop} {g gx : Nat} {x : Win} {rv : Value} (h : WinAt w S g x rv) (gr : w.grownBy w' (some gx)) (hg : S gx) : WinAt w' S g x rv :=
  h.grown gr (fun k hk => by injection hk with hk; subst hk; exact ⟨fun e => h.ng (by rw [← e]; exact hg), fun e => (h.nr _ e).1 hg⟩)
theorem Pair.refMove {T : Nat → Prop} (h : Pair w0 w S g gx x y) (r : RefIn w' (fun k => T k ∨ (w.heap.size ≤ k ∧ k < w'.heap.size)) gx y') (hT : ∀ k, T k → S k) (gr : w.grownBy w' (some gx)) : Pair w0 w' (fun k => S k ∨ (w.heap.size ≤ k ∧ k < w'.heap.size)) g gx x y' := by
  have hg := h.win.own.lt
  refine ⟨⟨?_, fun k hk => hk.elim (fun e => Nat.lt_of_lt_of_le (h.win.hS k e) gr.size) (·.2), fun k hk => .inl (h.win.base k hk), ?_⟩, ⟨_, r, fun k hk => hk.imp (hT k) id⟩, .inl h.inS, h.base⟩
  · obtain ⟨rv, hw⟩ := h.win.own.sets (S' := fun k => S k ∨ (w.heap.size ≤ k ∧ k < w'.heap.size)) (fun e => e.elim h.win.own.ng (fun e => Nat.lt_irrefl _ (Nat.lt_of_lt_of_le hg e.1))) (fun k hk => hk.imp id (·.1))
    exact ⟨rv, hw.gby gr (.inl h.inS)⟩
  · exact ⟨gr.os.trans h.win.bel.os, gr.tape.trans h.win.bel.tape, gr.output.trans h.win.bel.output, Nat.le_trans h.win.bel.size gr.size, fun k hk => (gr.block k (h.win.hS k (h.win.base k hk)) (fun e => by injection e with e; have := h.base; omega)).trans (h.win.bel.block k hk)⟩
theorem Pair.refKeep {T : Nat → Prop} (h : Pair w0 w S g gx x y) (r : RefIn w' T gx y') (hT : ∀ k, T k → S k) (gr : w.grownBy w' (some gx)) : Pair w0 w' S g gx x y' := by
  refine ⟨⟨?_, fun k hk => Nat.lt_of_lt_of_le (h.win.hS k hk) gr.size, h.win.base, ?_⟩, ⟨_, r, hT⟩, h.inS, h.base⟩
  · obtain ⟨rv, hw⟩ := h.win.own
    exact ⟨rv, hw.gby gr h.inS⟩
  · exact ⟨gr.os.trans h.win.bel.os, gr.tape.trans h.win.bel.tape, gr.output.trans h.win.bel.output, Nat.le_trans h.win.bel.size gr.size, fun k hk => (gr.block k (h.win.hS k (h.win.base k hk)) (fun e => by injection e with e; have := h.base; omega)).trans (h.win.bel.block k hk)⟩
end
end Go.Proofs.Ythhpddiicnjmmaa
