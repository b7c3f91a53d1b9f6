/- Contract of the law's do: Fill, See, High, Waits. Contract of the law's do: High. The walk of the law WindowPlays. -/
import Derived.Test.YtojjeogpggielaaWinD
set_option linter.unusedVariables false
set_option linter.unusedSimpArgs false
namespace Go.Proofs.Ytojjeogpggielaa
open Go.RowKit

section
variable {w0 w w' : World} {S T : Nat → Prop} {g gx b : Nat} {x y : Win}
theorem WS.gby (h : WS w0 w S g x) (gr : w.grownBy w' (some b)) (hb : S b) (h0 : w0.heap.size ≤ b) : WS w0 w' S g x := by
  obtain ⟨rv, hw⟩ := h.own
  exact ⟨⟨rv, hw.gby gr hb⟩, fun k hk => Nat.lt_of_lt_of_le (h.hS k hk) gr.size, h.base, gr.os.trans h.bel.os, gr.tape.trans h.bel.tape, gr.output.trans h.bel.output, Nat.le_trans h.bel.size gr.size, fun k hk => (gr.block k (h.hS k (h.base k hk)) (fun e => by injection e with e; omega)).trans (h.bel.block k hk)⟩
theorem RefIn.gby (h : RefIn w T gx y) (gr : w.grownBy w' (some b)) (hb : ¬ T b) (hne : gx ≠ b) : RefIn w' T gx y := by
  obtain ⟨A, c, h⟩ := h
  exact ⟨A, c, h.blk.grown gr (fun k hk => by injection hk with hk; rw [← hk]; exact hne), h.rows.gby gr h.hT hb, fun k hk => Nat.lt_of_lt_of_le (h.hT k hk) gr.size, h.ng⟩
theorem Lst.ofOwn {α : Type} {R : Rep α} {e : TypeId} {A : Option Addr} {n c : Nat} {l : List α} (p : Pair w0 w S g gx x y) (hb : Below w.heap.size w w') (own : Own R w' w.heap.size (fun _ => False) e (.slice A n c) l) : Lst R w' (fun k => S k ∨ (w.heap.size ≤ k ∧ k < w'.heap.size)) gx A n l :=
  ⟨fun k => w.heap.size ≤ k ∧ k < w'.heap.size, own.slIn (fun k h1 h2 => ⟨h1, h2⟩), fun k hk => .inr hk, fun h => by have := p.win.hS _ p.inS; omega⟩
theorem Lst.cutTo {α : Type} {R : Rep α} {A : Option Addr} {n hi : Nat} {l : List α} (h : Lst R w S gx A n l) (h2 : hi ≤ n) : Lst R w S gx A hi (l.take hi) := by
  obtain ⟨L, s, hL, hg⟩ := h.lies
  exact ⟨L, s.cutTo h2, hL, hg⟩
theorem rows26_len (A : Option Addr) (n c : Nat) (l : List Row) (a : Int) (m : Nat) (mi : Int) (hmi : mi = (m : Int)) (w : World) (h : IsSl rowRep w (· < w.heap.size) A n l) (ha : 0 ≤ a ∧ a ≤ 1099511627776) (hm : m ≤ 100) (hn : n ≤ maxLen) :
    Calls Try.prog 33 #[.slice A n c, .int .i64 a, .int .i64 mi] w fun e w' => ∃ v rr, e = .returned v ∧ Own rowRep w' w.heap.size (fun _ => False) 55 v rr ∧ rr.length ≤ m ∧ Below w.heap.size w w' := by
  refine (rows26_any A n c l a m mi hmi w h ha hm hn).mono ?_
  rintro e w' ⟨v, rfl, own, bel⟩
  exact ⟨v, _, rfl, own, by rw [rowsL_len, List.length_take]; omega, bel⟩
theorem Pair.refAt (h : Pair w0 w S g gx x y) : ∃ A c, Blk w gx [.int .i64 y.n, .int .i64 y.state, .int .i64 y.id, .int .i64 y.table, .int .i64 y.mark, .int .i64 y.after, .int .i64 y.cursor, .bool y.last, .slice A y.rows.length c] := by
  obtain ⟨T, ⟨A, c, r⟩, _⟩ := h.ref
  exact ⟨A, c, r.blk⟩
set_option maxHeartbeats 16000000 in
set_option maxRecDepth 100000 in
theorem do_fill_moda (h : Pair w0 w S g gx x x) (hf : Fine x) (ok oi ot on om oa : Int) (A6 : Option Addr) (n6 c6 : Nat) (A7 : Option Addr) (n7 c7 : Nat) (rows : List Row) (chs : List Chg) (s6 : IsSl rowRep w0 (· < w0.heap.size) A6 n6 rows) (s7 : IsSl chgRep w0 (· < w0.heap.size) A7 n7 chs) (hm6 : n6 ≤ maxLen) (hc6 : n6 ≤ c6) (hca : x.after < 0) (hraw : modOf on 13 ≠ 12) (hk : ¬ modOf ok 12 < 2 ∧ modOf ok 12 < 4) :
    Calls Try.prog 36 #[.pointer (some ⟨g, 0, none⟩), .pointer (some ⟨gx, 0, none⟩), .agg #[.int .i64 ok, .int .i64 oi, .int .i64 ot, .int .i64 on, .int .i64 om, .int .i64 oa, .slice A6 n6 c6, .slice A7 n7 c7]] w (DoPost w0 g gx) := by
  unfold DoPost
  obtain ⟨mk, hmk⟩ : ∃ mk, mk = modOf om 3 := ⟨_, rfl⟩
  obtain ⟨rn, hrn⟩ : ∃ rn, rn = modOf on 13 := ⟨_, rfl⟩
  obtain ⟨kk, hkk⟩ : ∃ kk, kk = modOf ok 12 := ⟨_, rfl⟩
  have hmr := modOf_range om 3 (by omega)
  rw [← hmk] at hmr
  obtain ⟨hm0, hm1⟩ := hmr
  rw [← hrn] at hraw
  rw [← hkk] at hk
  have HMK := Lib.hid hmk
  have HRN := Lib.hid hrn
  have HKK := Lib.hid hkk
  obtain ⟨W1, hW1⟩ : ∃ W1, W1 = w.alloc (.cells #[.int .i64 ok, .int .i64 oi, .int .i64 ot, .int .i64 on, .int .i64 om, .int .i64 oa, .slice A6 n6 c6, .slice A7 n7 c7] 64) := ⟨_, rfl⟩
  have B1 := Lib.hid (show Below w.heap.size w W1 by rw [hW1]; exact (Below.refl _ _).alloc (Nat.le_refl _) _)
  have K1 := Lib.hid (show Blk W1 w.heap.size [.int .i64 ok, .int .i64 oi, .int .i64 ot, .int .i64 on, .int .i64 om, .int .i64 oa, .slice A6 n6 c6, .slice A7 n7 c7] by rw [hW1]; exact Blk.new rfl rfl)
  have HW1 := Lib.hid hW1
  obtain ⟨S1, hS1⟩ : ∃ S1, S1 = (fun k => S k ∨ (w.heap.size ≤ k ∧ k < W1.heap.size)) := ⟨_, rfl⟩
  have P1 := Lib.hid (show Pair w0 W1 S1 g gx x x by rw [hS1]; exact h.below B1.out)
  have HF := Lib.hid hf
  have S6 := Lib.hid s6
  have S7 := Lib.hid s7
  have drw : (rn == 12) = false := by simpa using hraw
  have drwd : decide (rn = 12) = false := by exact decide_eq_false hraw
  have q0 := K1.out.1 0 _ rfl
  have q1 := K1.out.1 1 _ rfl
  have q2 := K1.out.1 2 _ rfl
  have q3 := K1.out.1 3 _ rfl
  have q4 := K1.out.1 4 _ rfl
  have q5 := K1.out.1 5 _ rfl
  have q6 := K1.out.1 6 _ rfl
  have q7 := K1.out.1 7 _ rfl
  have hWs : w.heap.size < W1.heap.size := K1.out.lt
  clear hmk hrn hkk hW1 hS1 h hf s6 s7
  have dk2 : decide (kk < 2) = false := decide_eq_false (by omega)
  have dk4 : decide (kk < 4) = true := decide_eq_true (by omega)
  have h4r := modOf_range on 4 (by omega)
  obtain ⟨m4, hm4⟩ := Int.eq_ofNat_of_zero_le (show 0 ≤ 1 + modOf on 4 by omega)
  have hw4 : IntKind.i64.wrap (1 + modOf on 4) = (m4 : Int) := by rw [← hm4]; exact IntWalk.i64_in _ (by omega)
  have hm44 : m4 ≤ 4 := by omega
  obtain ⟨Ax, cx, hblk⟩ := P1.out.refAt
  have KX := Lib.hid hblk
  have k5 := hblk.1 5 _ rfl
  obtain ⟨xa, hxa⟩ : ∃ xa, xa = x.after := ⟨_, rfl⟩
  rw [← hxa] at hca k5
  have hca2 : ¬ 0 ≤ xa := by omega
  have SL6 := Lib.hid (show IsSl rowRep W1.drew (· < W1.drew.heap.size) A6 n6 rows from ((S6.out.below P1.out.win.bel).more P1.out.win.bel.size).keep (fun _ _ => rfl))
  have PD := Lib.hid (show Pair w0 W1.drew S1 g gx x x from P1.out.drewN 1)
  have HN6 := Lib.hid hm6
  have HXA := Lib.hid hxa
  have HFX := Lib.hid (show x.n ≤ 64 from HF.out.2.2.2.2.2)
  clear hxa hblk hm4 h4r hm6
  clear hraw hk
  go_enter Try.func36, Try.ntmps36
  go_wp2_with (first
    | (go_at_call 19; (with_reducible refine (big_any om 3 _ (by omega) (by omega)).mono ?_); rintro e w' ⟨rfl, rfl⟩; rw [← HMK.out])
    | (go_at_call 15; (with_reducible refine (mod_any on 13 _ (by omega) (by omega)).mono ?_); rintro e w' ⟨rfl, rfl⟩; rw [← HRN.out])
    | (go_at_call 15; (with_reducible refine (mod_any ok 12 _ (by omega) (by omega)).mono ?_); rintro e w' ⟨rfl, rfl⟩; rw [← HKK.out])
    | fail)
  rw [← HW1.out]
  go_region_held3 (fun w' => w'.cell? ⟨w.heap.size, 6, none⟩ = some (.slice A6 n6 c6) ∧ w'.cell? ⟨w.heap.size, 3, none⟩ = some (.int .i64 on) ∧ w'.cell? ⟨gx, 5, none⟩ = some (.int .i64 xa)) (first | exact ⟨q6, q3, k5⟩ | exact HK2.out | fail)
    (first
    | (go_at_call 15; (with_reducible refine (mod_any on 4 _ (by omega) (by omega)).mono ?_); rintro e w' ⟨rfl, rfl⟩)
    | (go_at_call 33; (with_reducible refine (rows26_len A6 n6 c6 rows _ m4 (m4 : Int) rfl _ SL6.out (by constructor <;> omega) (by omega) HN6.out).mono ?_); rintro e w2 ⟨v2, rr, rfl, own2, hrl2, bel2⟩; have HRL := Lib.hid (show rr.length ≤ 100 by omega); obtain ⟨A2, n2, rfl⟩ := own2.form; obtain ⟨rn2, hrn2⟩ : ∃ rn2, rn2 = rr.length := ⟨_, rfl⟩; rw [← hrn2] at own2 ⊢; have HRN2 := Lib.hid hrn2; have OW2 := Lib.hid own2; have B2 := Lib.hid bel2; have KX2 := Lib.hid (show Blk w2 gx _ from (show Blk W1.drew gx _ from KX.out).after bel2); have KO2 := Lib.hid (show Blk w2 w.heap.size _ from (show Blk W1.drew w.heap.size _ from K1.out).after bel2); have HK2 := Lib.hid (show w2.cell? ⟨w.heap.size, 6, none⟩ = some (.slice A6 n6 c6) ∧ w2.cell? ⟨w.heap.size, 3, none⟩ = some (.int .i64 on) ∧ w2.cell? ⟨gx, 5, none⟩ = some (.int .i64 xa) from ⟨KO2.out.1 6 _ rfl, KO2.out.1 3 _ rfl, (by rw [HXA.out]; exact KX2.out.1 5 _ rfl)⟩); clear own2 bel2 hrl2 hrn2)
    | fail)
  all_goals
    have P2 := Lib.hid (PD.out.below B2.out)
    have LS2 := Lib.hid (show Lst rowRep w2 _ gx A2 rn2 rr from Lst.ofOwn PD.out B2.out OW2.out)
    have hl100 := HRL.out
    rw [← HRN2.out] at hl100
    have hrm : rn2 ≤ maxLen := by simp only [maxLen]; omega
    clear hl100
    go_wp2_with (first
      | (go_at_call 24; (with_reducible refine (pr_fill_w P2.out A2 rn2 n2 rr LS2.out HFX.out hrm).mono ?_); rintro e w3 ⟨rfl, p3, l3⟩; have P3 := Lib.hid p3; have LS3 := Lib.hid l3; clear p3 l3)
      | (go_at_call 68; (with_reducible refine (pr_fill_r P3.out A2 rn2 n2 rr LS3.out HFX.out hrm).mono ?_); rintro e w4 ⟨rfl, S4, p4⟩; have P4 := Lib.hid p4; clear p4)
      | fail)
    go_ret
    exact ⟨rfl, S4, _, P4.out, HF.out.filled _⟩
set_option maxHeartbeats 16000000 in
set_option maxRecDepth 100000 in
theorem do_fill_modb (h : Pair w0 w S g gx x x) (hf : Fine x) (ok oi ot on om oa : Int) (A6 : Option Addr) (n6 c6 : Nat) (A7 : Option Addr) (n7 c7 : Nat) (rows : List Row) (chs : List Chg) (s6 : IsSl rowRep w0 (· < w0.heap.size) A6 n6 rows) (s7 : IsSl chgRep w0 (· < w0.heap.size) A7 n7 chs) (hm6 : n6 ≤ maxLen) (hc6 : n6 ≤ c6) (hca : ¬ x.after < 0 ∧ ¬ 1099511627776 < x.after) (hraw : modOf on 13 ≠ 12) (hk : ¬ modOf ok 12 < 2 ∧ modOf ok 12 < 4) :
    Calls Try.prog 36 #[.pointer (some ⟨g, 0, none⟩), .pointer (some ⟨gx, 0, none⟩), .agg #[.int .i64 ok, .int .i64 oi, .int .i64 ot, .int .i64 on, .int .i64 om, .int .i64 oa, .slice A6 n6 c6, .slice A7 n7 c7]] w (DoPost w0 g gx) := by
  unfold DoPost
  obtain ⟨mk, hmk⟩ : ∃ mk, mk = modOf om 3 := ⟨_, rfl⟩
  obtain ⟨rn, hrn⟩ : ∃ rn, rn = modOf on 13 := ⟨_, rfl⟩
  obtain ⟨kk, hkk⟩ : ∃ kk, kk = modOf ok 12 := ⟨_, rfl⟩
  have hmr := modOf_range om 3 (by omega)
  rw [← hmk] at hmr
  obtain ⟨hm0, hm1⟩ := hmr
  rw [← hrn] at hraw
  rw [← hkk] at hk
  have HMK := Lib.hid hmk
  have HRN := Lib.hid hrn
  have HKK := Lib.hid hkk
  obtain ⟨W1, hW1⟩ : ∃ W1, W1 = w.alloc (.cells #[.int .i64 ok, .int .i64 oi, .int .i64 ot, .int .i64 on, .int .i64 om, .int .i64 oa, .slice A6 n6 c6, .slice A7 n7 c7] 64) := ⟨_, rfl⟩
  have B1 := Lib.hid (show Below w.heap.size w W1 by rw [hW1]; exact (Below.refl _ _).alloc (Nat.le_refl _) _)
  have K1 := Lib.hid (show Blk W1 w.heap.size [.int .i64 ok, .int .i64 oi, .int .i64 ot, .int .i64 on, .int .i64 om, .int .i64 oa, .slice A6 n6 c6, .slice A7 n7 c7] by rw [hW1]; exact Blk.new rfl rfl)
  have HW1 := Lib.hid hW1
  obtain ⟨S1, hS1⟩ : ∃ S1, S1 = (fun k => S k ∨ (w.heap.size ≤ k ∧ k < W1.heap.size)) := ⟨_, rfl⟩
  have P1 := Lib.hid (show Pair w0 W1 S1 g gx x x by rw [hS1]; exact h.below B1.out)
  have HF := Lib.hid hf
  have S6 := Lib.hid s6
  have S7 := Lib.hid s7
  have drw : (rn == 12) = false := by simpa using hraw
  have drwd : decide (rn = 12) = false := by exact decide_eq_false hraw
  have q0 := K1.out.1 0 _ rfl
  have q1 := K1.out.1 1 _ rfl
  have q2 := K1.out.1 2 _ rfl
  have q3 := K1.out.1 3 _ rfl
  have q4 := K1.out.1 4 _ rfl
  have q5 := K1.out.1 5 _ rfl
  have q6 := K1.out.1 6 _ rfl
  have q7 := K1.out.1 7 _ rfl
  have hWs : w.heap.size < W1.heap.size := K1.out.lt
  clear hmk hrn hkk hW1 hS1 h hf s6 s7
  have dk2 : decide (kk < 2) = false := decide_eq_false (by omega)
  have dk4 : decide (kk < 4) = true := decide_eq_true (by omega)
  have h4r := modOf_range on 4 (by omega)
  obtain ⟨m4, hm4⟩ := Int.eq_ofNat_of_zero_le (show 0 ≤ 1 + modOf on 4 by omega)
  have hw4 : IntKind.i64.wrap (1 + modOf on 4) = (m4 : Int) := by rw [← hm4]; exact IntWalk.i64_in _ (by omega)
  have hm44 : m4 ≤ 4 := by omega
  obtain ⟨Ax, cx, hblk⟩ := P1.out.refAt
  have KX := Lib.hid hblk
  have k5 := hblk.1 5 _ rfl
  obtain ⟨xa, hxa⟩ : ∃ xa, xa = x.after := ⟨_, rfl⟩
  rw [← hxa] at hca k5
  obtain ⟨hca1, hca2⟩ := hca
  have hca3 : 0 ≤ xa := by omega
  have SL6 := Lib.hid (show IsSl rowRep W1.drew (· < W1.drew.heap.size) A6 n6 rows from ((S6.out.below P1.out.win.bel).more P1.out.win.bel.size).keep (fun _ _ => rfl))
  have PD := Lib.hid (show Pair w0 W1.drew S1 g gx x x from P1.out.drewN 1)
  have HN6 := Lib.hid hm6
  have HXA := Lib.hid hxa
  have HFX := Lib.hid (show x.n ≤ 64 from HF.out.2.2.2.2.2)
  clear hxa hblk hm4 h4r hm6
  clear hraw hk
  go_enter Try.func36, Try.ntmps36
  go_wp2_with (first
    | (go_at_call 19; (with_reducible refine (big_any om 3 _ (by omega) (by omega)).mono ?_); rintro e w' ⟨rfl, rfl⟩; rw [← HMK.out])
    | (go_at_call 15; (with_reducible refine (mod_any on 13 _ (by omega) (by omega)).mono ?_); rintro e w' ⟨rfl, rfl⟩; rw [← HRN.out])
    | (go_at_call 15; (with_reducible refine (mod_any ok 12 _ (by omega) (by omega)).mono ?_); rintro e w' ⟨rfl, rfl⟩; rw [← HKK.out])
    | fail)
  rw [← HW1.out]
  go_region_held3 (fun w' => w'.cell? ⟨w.heap.size, 6, none⟩ = some (.slice A6 n6 c6) ∧ w'.cell? ⟨w.heap.size, 3, none⟩ = some (.int .i64 on) ∧ w'.cell? ⟨gx, 5, none⟩ = some (.int .i64 xa)) (first | exact ⟨q6, q3, k5⟩ | exact HK2.out | fail)
    (first
    | (go_at_call 15; (with_reducible refine (mod_any on 4 _ (by omega) (by omega)).mono ?_); rintro e w' ⟨rfl, rfl⟩)
    | (go_at_call 33; (with_reducible refine (rows26_len A6 n6 c6 rows _ m4 (m4 : Int) rfl _ SL6.out (by constructor <;> omega) (by omega) HN6.out).mono ?_); rintro e w2 ⟨v2, rr, rfl, own2, hrl2, bel2⟩; have HRL := Lib.hid (show rr.length ≤ 100 by omega); obtain ⟨A2, n2, rfl⟩ := own2.form; obtain ⟨rn2, hrn2⟩ : ∃ rn2, rn2 = rr.length := ⟨_, rfl⟩; rw [← hrn2] at own2 ⊢; have HRN2 := Lib.hid hrn2; have OW2 := Lib.hid own2; have B2 := Lib.hid bel2; have KX2 := Lib.hid (show Blk w2 gx _ from (show Blk W1.drew gx _ from KX.out).after bel2); have KO2 := Lib.hid (show Blk w2 w.heap.size _ from (show Blk W1.drew w.heap.size _ from K1.out).after bel2); have HK2 := Lib.hid (show w2.cell? ⟨w.heap.size, 6, none⟩ = some (.slice A6 n6 c6) ∧ w2.cell? ⟨w.heap.size, 3, none⟩ = some (.int .i64 on) ∧ w2.cell? ⟨gx, 5, none⟩ = some (.int .i64 xa) from ⟨KO2.out.1 6 _ rfl, KO2.out.1 3 _ rfl, (by rw [HXA.out]; exact KX2.out.1 5 _ rfl)⟩); clear own2 bel2 hrl2 hrn2)
    | fail)
  all_goals
    have P2 := Lib.hid (PD.out.below B2.out)
    have LS2 := Lib.hid (show Lst rowRep w2 _ gx A2 rn2 rr from Lst.ofOwn PD.out B2.out OW2.out)
    have hl100 := HRL.out
    rw [← HRN2.out] at hl100
    have hrm : rn2 ≤ maxLen := by simp only [maxLen]; omega
    clear hl100
    go_wp2_with (first
      | (go_at_call 24; (with_reducible refine (pr_fill_w P2.out A2 rn2 n2 rr LS2.out HFX.out hrm).mono ?_); rintro e w3 ⟨rfl, p3, l3⟩; have P3 := Lib.hid p3; have LS3 := Lib.hid l3; clear p3 l3)
      | (go_at_call 68; (with_reducible refine (pr_fill_r P3.out A2 rn2 n2 rr LS3.out HFX.out hrm).mono ?_); rintro e w4 ⟨rfl, S4, p4⟩; have P4 := Lib.hid p4; clear p4)
      | fail)
    go_ret
    exact ⟨rfl, S4, _, P4.out, HF.out.filled _⟩
set_option maxHeartbeats 16000000 in
set_option maxRecDepth 100000 in
theorem do_fill_modc (h : Pair w0 w S g gx x x) (hf : Fine x) (ok oi ot on om oa : Int) (A6 : Option Addr) (n6 c6 : Nat) (A7 : Option Addr) (n7 c7 : Nat) (rows : List Row) (chs : List Chg) (s6 : IsSl rowRep w0 (· < w0.heap.size) A6 n6 rows) (s7 : IsSl chgRep w0 (· < w0.heap.size) A7 n7 chs) (hm6 : n6 ≤ maxLen) (hc6 : n6 ≤ c6) (hca : 1099511627776 < x.after) (hraw : modOf on 13 ≠ 12) (hk : ¬ modOf ok 12 < 2 ∧ modOf ok 12 < 4) :
    Calls Try.prog 36 #[.pointer (some ⟨g, 0, none⟩), .pointer (some ⟨gx, 0, none⟩), .agg #[.int .i64 ok, .int .i64 oi, .int .i64 ot, .int .i64 on, .int .i64 om, .int .i64 oa, .slice A6 n6 c6, .slice A7 n7 c7]] w (DoPost w0 g gx) := by
  unfold DoPost
  obtain ⟨mk, hmk⟩ : ∃ mk, mk = modOf om 3 := ⟨_, rfl⟩
  obtain ⟨rn, hrn⟩ : ∃ rn, rn = modOf on 13 := ⟨_, rfl⟩
  obtain ⟨kk, hkk⟩ : ∃ kk, kk = modOf ok 12 := ⟨_, rfl⟩
  have hmr := modOf_range om 3 (by omega)
  rw [← hmk] at hmr
  obtain ⟨hm0, hm1⟩ := hmr
  rw [← hrn] at hraw
  rw [← hkk] at hk
  have HMK := Lib.hid hmk
  have HRN := Lib.hid hrn
  have HKK := Lib.hid hkk
  obtain ⟨W1, hW1⟩ : ∃ W1, W1 = w.alloc (.cells #[.int .i64 ok, .int .i64 oi, .int .i64 ot, .int .i64 on, .int .i64 om, .int .i64 oa, .slice A6 n6 c6, .slice A7 n7 c7] 64) := ⟨_, rfl⟩
  have B1 := Lib.hid (show Below w.heap.size w W1 by rw [hW1]; exact (Below.refl _ _).alloc (Nat.le_refl _) _)
  have K1 := Lib.hid (show Blk W1 w.heap.size [.int .i64 ok, .int .i64 oi, .int .i64 ot, .int .i64 on, .int .i64 om, .int .i64 oa, .slice A6 n6 c6, .slice A7 n7 c7] by rw [hW1]; exact Blk.new rfl rfl)
  have HW1 := Lib.hid hW1
  obtain ⟨S1, hS1⟩ : ∃ S1, S1 = (fun k => S k ∨ (w.heap.size ≤ k ∧ k < W1.heap.size)) := ⟨_, rfl⟩
  have P1 := Lib.hid (show Pair w0 W1 S1 g gx x x by rw [hS1]; exact h.below B1.out)
  have HF := Lib.hid hf
  have S6 := Lib.hid s6
  have S7 := Lib.hid s7
  have drw : (rn == 12) = false := by simpa using hraw
  have drwd : decide (rn = 12) = false := by exact decide_eq_false hraw
  have q0 := K1.out.1 0 _ rfl
  have q1 := K1.out.1 1 _ rfl
  have q2 := K1.out.1 2 _ rfl
  have q3 := K1.out.1 3 _ rfl
  have q4 := K1.out.1 4 _ rfl
  have q5 := K1.out.1 5 _ rfl
  have q6 := K1.out.1 6 _ rfl
  have q7 := K1.out.1 7 _ rfl
  have hWs : w.heap.size < W1.heap.size := K1.out.lt
  clear hmk hrn hkk hW1 hS1 h hf s6 s7
  have dk2 : decide (kk < 2) = false := decide_eq_false (by omega)
  have dk4 : decide (kk < 4) = true := decide_eq_true (by omega)
  have h4r := modOf_range on 4 (by omega)
  obtain ⟨m4, hm4⟩ := Int.eq_ofNat_of_zero_le (show 0 ≤ 1 + modOf on 4 by omega)
  have hw4 : IntKind.i64.wrap (1 + modOf on 4) = (m4 : Int) := by rw [← hm4]; exact IntWalk.i64_in _ (by omega)
  have hm44 : m4 ≤ 4 := by omega
  obtain ⟨Ax, cx, hblk⟩ := P1.out.refAt
  have KX := Lib.hid hblk
  have k5 := hblk.1 5 _ rfl
  obtain ⟨xa, hxa⟩ : ∃ xa, xa = x.after := ⟨_, rfl⟩
  rw [← hxa] at hca k5
  have hca1 : ¬ xa < 0 := by omega
  have hca3 : 0 ≤ xa := by omega
  have SL6 := Lib.hid (show IsSl rowRep W1.drew (· < W1.drew.heap.size) A6 n6 rows from ((S6.out.below P1.out.win.bel).more P1.out.win.bel.size).keep (fun _ _ => rfl))
  have PD := Lib.hid (show Pair w0 W1.drew S1 g gx x x from P1.out.drewN 1)
  have HN6 := Lib.hid hm6
  have HXA := Lib.hid hxa
  have HFX := Lib.hid (show x.n ≤ 64 from HF.out.2.2.2.2.2)
  clear hxa hblk hm4 h4r hm6
  clear hraw hk
  go_enter Try.func36, Try.ntmps36
  go_wp2_with (first
    | (go_at_call 19; (with_reducible refine (big_any om 3 _ (by omega) (by omega)).mono ?_); rintro e w' ⟨rfl, rfl⟩; rw [← HMK.out])
    | (go_at_call 15; (with_reducible refine (mod_any on 13 _ (by omega) (by omega)).mono ?_); rintro e w' ⟨rfl, rfl⟩; rw [← HRN.out])
    | (go_at_call 15; (with_reducible refine (mod_any ok 12 _ (by omega) (by omega)).mono ?_); rintro e w' ⟨rfl, rfl⟩; rw [← HKK.out])
    | fail)
  rw [← HW1.out]
  go_region_held3 (fun w' => w'.cell? ⟨w.heap.size, 6, none⟩ = some (.slice A6 n6 c6) ∧ w'.cell? ⟨w.heap.size, 3, none⟩ = some (.int .i64 on) ∧ w'.cell? ⟨gx, 5, none⟩ = some (.int .i64 xa)) (first | exact ⟨q6, q3, k5⟩ | exact HK2.out | fail)
    (first
    | (go_at_call 15; (with_reducible refine (mod_any on 4 _ (by omega) (by omega)).mono ?_); rintro e w' ⟨rfl, rfl⟩)
    | (go_at_call 33; (with_reducible refine (rows26_len A6 n6 c6 rows _ m4 (m4 : Int) rfl _ SL6.out (by constructor <;> omega) (by omega) HN6.out).mono ?_); rintro e w2 ⟨v2, rr, rfl, own2, hrl2, bel2⟩; have HRL := Lib.hid (show rr.length ≤ 100 by omega); obtain ⟨A2, n2, rfl⟩ := own2.form; obtain ⟨rn2, hrn2⟩ : ∃ rn2, rn2 = rr.length := ⟨_, rfl⟩; rw [← hrn2] at own2 ⊢; have HRN2 := Lib.hid hrn2; have OW2 := Lib.hid own2; have B2 := Lib.hid bel2; have KX2 := Lib.hid (show Blk w2 gx _ from (show Blk W1.drew gx _ from KX.out).after bel2); have KO2 := Lib.hid (show Blk w2 w.heap.size _ from (show Blk W1.drew w.heap.size _ from K1.out).after bel2); have HK2 := Lib.hid (show w2.cell? ⟨w.heap.size, 6, none⟩ = some (.slice A6 n6 c6) ∧ w2.cell? ⟨w.heap.size, 3, none⟩ = some (.int .i64 on) ∧ w2.cell? ⟨gx, 5, none⟩ = some (.int .i64 xa) from ⟨KO2.out.1 6 _ rfl, KO2.out.1 3 _ rfl, (by rw [HXA.out]; exact KX2.out.1 5 _ rfl)⟩); clear own2 bel2 hrl2 hrn2)
    | fail)
  all_goals
    have P2 := Lib.hid (PD.out.below B2.out)
    have LS2 := Lib.hid (show Lst rowRep w2 _ gx A2 rn2 rr from Lst.ofOwn PD.out B2.out OW2.out)
    have hl100 := HRL.out
    rw [← HRN2.out] at hl100
    have hrm : rn2 ≤ maxLen := by simp only [maxLen]; omega
    clear hl100
    go_wp2_with (first
      | (go_at_call 24; (with_reducible refine (pr_fill_w P2.out A2 rn2 n2 rr LS2.out HFX.out hrm).mono ?_); rintro e w3 ⟨rfl, p3, l3⟩; have P3 := Lib.hid p3; have LS3 := Lib.hid l3; clear p3 l3)
      | (go_at_call 68; (with_reducible refine (pr_fill_r P3.out A2 rn2 n2 rr LS3.out HFX.out hrm).mono ?_); rintro e w4 ⟨rfl, S4, p4⟩; have P4 := Lib.hid p4; clear p4)
      | fail)
    go_ret
    exact ⟨rfl, S4, _, P4.out, HF.out.filled _⟩
theorem do_fill_mod (h : Pair w0 w S g gx x x) (hf : Fine x) (ok oi ot on om oa : Int) (A6 : Option Addr) (n6 c6 : Nat) (A7 : Option Addr) (n7 c7 : Nat) (rows : List Row) (chs : List Chg) (s6 : IsSl rowRep w0 (· < w0.heap.size) A6 n6 rows) (s7 : IsSl chgRep w0 (· < w0.heap.size) A7 n7 chs) (hm6 : n6 ≤ maxLen) (hc6 : n6 ≤ c6) (hraw : modOf on 13 ≠ 12) (hk : ¬ modOf ok 12 < 2 ∧ modOf ok 12 < 4) :
    Calls Try.prog 36 #[.pointer (some ⟨g, 0, none⟩), .pointer (some ⟨gx, 0, none⟩), .agg #[.int .i64 ok, .int .i64 oi, .int .i64 ot, .int .i64 on, .int .i64 om, .int .i64 oa, .slice A6 n6 c6, .slice A7 n7 c7]] w (DoPost w0 g gx) := by
  by_cases h1 : x.after < 0
  · exact do_fill_moda h hf ok oi ot on om oa A6 n6 c6 A7 n7 c7 rows chs s6 s7 hm6 hc6 h1 hraw hk
  · by_cases h2 : 1099511627776 < x.after
    · exact do_fill_modc h hf ok oi ot on om oa A6 n6 c6 A7 n7 c7 rows chs s6 s7 hm6 hc6 h2 hraw hk
    · exact do_fill_modb h hf ok oi ot on om oa A6 n6 c6 A7 n7 c7 rows chs s6 s7 hm6 hc6 ⟨h1, h2⟩ hraw hk
set_option maxHeartbeats 16000000 in
set_option maxRecDepth 100000 in
theorem do_fill_raw1a (h : Pair w0 w S g gx x x) (hf : Fine x) (ok oi ot on om oa : Int) (A6 : Option Addr) (n6 c6 : Nat) (A7 : Option Addr) (n7 c7 : Nat) (rows : List Row) (chs : List Chg) (s6 : IsSl rowRep w0 (· < w0.heap.size) A6 n6 rows) (s7 : IsSl chgRep w0 (· < w0.heap.size) A7 n7 chs) (hm6 : n6 ≤ maxLen) (hc6 : n6 ≤ c6) (hp : n6 ≤ 80) (hca : x.after < 0) (hraw : modOf on 13 = 12) (hk : ¬ modOf ok 12 < 2 ∧ modOf ok 12 < 4) :
    Calls Try.prog 36 #[.pointer (some ⟨g, 0, none⟩), .pointer (some ⟨gx, 0, none⟩), .agg #[.int .i64 ok, .int .i64 oi, .int .i64 ot, .int .i64 on, .int .i64 om, .int .i64 oa, .slice A6 n6 c6, .slice A7 n7 c7]] w (DoPost w0 g gx) := by
  unfold DoPost
  obtain ⟨mk, hmk⟩ : ∃ mk, mk = modOf om 3 := ⟨_, rfl⟩
  obtain ⟨rn, hrn⟩ : ∃ rn, rn = modOf on 13 := ⟨_, rfl⟩
  obtain ⟨kk, hkk⟩ : ∃ kk, kk = modOf ok 12 := ⟨_, rfl⟩
  have hmr := modOf_range om 3 (by omega)
  rw [← hmk] at hmr
  obtain ⟨hm0, hm1⟩ := hmr
  rw [← hrn] at hraw
  rw [← hkk] at hk
  have HMK := Lib.hid hmk
  have HRN := Lib.hid hrn
  have HKK := Lib.hid hkk
  obtain ⟨W1, hW1⟩ : ∃ W1, W1 = w.alloc (.cells #[.int .i64 ok, .int .i64 oi, .int .i64 ot, .int .i64 on, .int .i64 om, .int .i64 oa, .slice A6 n6 c6, .slice A7 n7 c7] 64) := ⟨_, rfl⟩
  have B1 := Lib.hid (show Below w.heap.size w W1 by rw [hW1]; exact (Below.refl _ _).alloc (Nat.le_refl _) _)
  have K1 := Lib.hid (show Blk W1 w.heap.size [.int .i64 ok, .int .i64 oi, .int .i64 ot, .int .i64 on, .int .i64 om, .int .i64 oa, .slice A6 n6 c6, .slice A7 n7 c7] by rw [hW1]; exact Blk.new rfl rfl)
  have HW1 := Lib.hid hW1
  obtain ⟨S1, hS1⟩ : ∃ S1, S1 = (fun k => S k ∨ (w.heap.size ≤ k ∧ k < W1.heap.size)) := ⟨_, rfl⟩
  have P1 := Lib.hid (show Pair w0 W1 S1 g gx x x by rw [hS1]; exact h.below B1.out)
  have HF := Lib.hid hf
  have S6 := Lib.hid s6
  have S7 := Lib.hid s7
  have drw : (rn == 12) = true := by simpa using hraw
  have drwd : decide (rn = 12) = true := by exact decide_eq_true hraw
  have q0 := K1.out.1 0 _ rfl
  have q1 := K1.out.1 1 _ rfl
  have q2 := K1.out.1 2 _ rfl
  have q3 := K1.out.1 3 _ rfl
  have q4 := K1.out.1 4 _ rfl
  have q5 := K1.out.1 5 _ rfl
  have q6 := K1.out.1 6 _ rfl
  have q7 := K1.out.1 7 _ rfl
  have hWs : w.heap.size < W1.heap.size := K1.out.lt
  clear hmk hrn hkk hW1 hS1 h hf s6 s7
  have dk2 : decide (kk < 2) = false := decide_eq_false (by omega)
  have dk4 : decide (kk < 4) = true := decide_eq_true (by omega)
  have h4r := modOf_range on 4 (by omega)
  obtain ⟨m4, hm4⟩ := Int.eq_ofNat_of_zero_le (show 0 ≤ 1 + modOf on 4 by omega)
  have hw4 : IntKind.i64.wrap (1 + modOf on 4) = (m4 : Int) := by rw [← hm4]; exact IntWalk.i64_in _ (by omega)
  have hm44 : m4 ≤ 4 := by omega
  obtain ⟨Ax, cx, hblk⟩ := P1.out.refAt
  have KX := Lib.hid hblk
  have k5 := hblk.1 5 _ rfl
  obtain ⟨xa, hxa⟩ : ∃ xa, xa = x.after := ⟨_, rfl⟩
  rw [← hxa] at hca k5
  have hca2 : ¬ 0 ≤ xa := by omega
  have SL6 := Lib.hid (show IsSl rowRep W1.drew (· < W1.drew.heap.size) A6 n6 rows from ((S6.out.below P1.out.win.bel).more P1.out.win.bel.size).keep (fun _ _ => rfl))
  have PD := Lib.hid (show Pair w0 W1.drew S1 g gx x x from P1.out.drewN 1)
  have HN6 := Lib.hid hm6
  have HXA := Lib.hid hxa
  have HFX := Lib.hid (show x.n ≤ 64 from HF.out.2.2.2.2.2)
  clear hxa hblk hm4 h4r hm6
  have hn6i : ¬ (80 : Int) < (n6 : Int) := by omega
  have SR6 := Lib.hid S6.out
  have hc6i : (n6 : Int) ≤ (c6 : Int) := by omega
  have hn60 : (0 : Int) ≤ (n6 : Int) := by omega
  clear hp
  clear hraw hk
  go_enter Try.func36, Try.ntmps36
  go_wp2_with (first
    | (go_at_call 19; (with_reducible refine (big_any om 3 _ (by omega) (by omega)).mono ?_); rintro e w' ⟨rfl, rfl⟩; rw [← HMK.out])
    | (go_at_call 15; (with_reducible refine (mod_any on 13 _ (by omega) (by omega)).mono ?_); rintro e w' ⟨rfl, rfl⟩; rw [← HRN.out])
    | (go_at_call 15; (with_reducible refine (mod_any ok 12 _ (by omega) (by omega)).mono ?_); rintro e w' ⟨rfl, rfl⟩; rw [← HKK.out])
    | fail)
  rw [← HW1.out]
  go_region_held3 (fun w' => w'.cell? ⟨w.heap.size, 6, none⟩ = some (.slice A6 n6 c6) ∧ w'.cell? ⟨w.heap.size, 3, none⟩ = some (.int .i64 on) ∧ w'.cell? ⟨gx, 5, none⟩ = some (.int .i64 xa)) (first | exact ⟨q6, q3, k5⟩ | exact HK2.out | fail)
    (first
    | (go_at_call 15; (with_reducible refine (mod_any on 4 _ (by omega) (by omega)).mono ?_); rintro e w' ⟨rfl, rfl⟩)
    | (go_at_call 33; (with_reducible refine (rows26_len A6 n6 c6 rows _ m4 (m4 : Int) rfl _ SL6.out (by constructor <;> omega) (by omega) HN6.out).mono ?_); rintro e w2 ⟨v2, rr, rfl, own2, hrl2, bel2⟩; have HRL := Lib.hid (show rr.length ≤ 100 by omega); obtain ⟨A2, n2, rfl⟩ := own2.form; obtain ⟨rn2, hrn2⟩ : ∃ rn2, rn2 = rr.length := ⟨_, rfl⟩; rw [← hrn2] at own2 ⊢; have HRN2 := Lib.hid hrn2; have OW2 := Lib.hid own2; have B2 := Lib.hid bel2; have KX2 := Lib.hid (show Blk w2 gx _ from (show Blk W1.drew gx _ from KX.out).after bel2); have KO2 := Lib.hid (show Blk w2 w.heap.size _ from (show Blk W1.drew w.heap.size _ from K1.out).after bel2); have HK2 := Lib.hid (show w2.cell? ⟨w.heap.size, 6, none⟩ = some (.slice A6 n6 c6) ∧ w2.cell? ⟨w.heap.size, 3, none⟩ = some (.int .i64 on) ∧ w2.cell? ⟨gx, 5, none⟩ = some (.int .i64 xa) from ⟨KO2.out.1 6 _ rfl, KO2.out.1 3 _ rfl, (by rw [HXA.out]; exact KX2.out.1 5 _ rfl)⟩); clear own2 bel2 hrl2 hrn2)
    | fail)
  all_goals
    have P2 := Lib.hid (PD.out.below B2.out)
    have LS2 := Lib.hid (show Lst rowRep w2 _ gx A2 rn2 rr from Lst.ofOwn PD.out B2.out OW2.out)
    have hl100 := HRL.out
    rw [← HRN2.out] at hl100
    have hrm : rn2 ≤ maxLen := by simp only [maxLen]; omega
    clear hl100
    have LSR := Lib.hid (show Lst rowRep w2 _ gx A6 n6 (rows.take n6) from (Lst.old P2.out S6.out).cutTo (by omega))
    obtain ⟨r6, r3, r5⟩ := HK2.out
    have hwm : n6 ≤ maxLen := by simp only [maxLen]; omega
    go_wp2_with (first
      | (go_at_call 24; (with_reducible refine (pr_fill_w P2.out A6 n6 c6 (rows.take n6) LSR.out HFX.out hwm).mono ?_); rintro e w3 ⟨rfl, p3, l3⟩; have P3 := Lib.hid p3; have LS3 := Lib.hid l3; clear p3 l3)
      | (go_at_call 68; (with_reducible refine (pr_fill_r P3.out A6 n6 c6 (rows.take n6) LS3.out HFX.out hwm).mono ?_); rintro e w4 ⟨rfl, S4, p4⟩; have P4 := Lib.hid p4; clear p4)
      | fail)
    go_ret
    exact ⟨rfl, S4, _, P4.out, HF.out.filled _⟩
set_option maxHeartbeats 16000000 in
set_option maxRecDepth 100000 in
theorem do_fill_raw1b (h : Pair w0 w S g gx x x) (hf : Fine x) (ok oi ot on om oa : Int) (A6 : Option Addr) (n6 c6 : Nat) (A7 : Option Addr) (n7 c7 : Nat) (rows : List Row) (chs : List Chg) (s6 : IsSl rowRep w0 (· < w0.heap.size) A6 n6 rows) (s7 : IsSl chgRep w0 (· < w0.heap.size) A7 n7 chs) (hm6 : n6 ≤ maxLen) (hc6 : n6 ≤ c6) (hp : n6 ≤ 80) (hca : ¬ x.after < 0 ∧ ¬ 1099511627776 < x.after) (hraw : modOf on 13 = 12) (hk : ¬ modOf ok 12 < 2 ∧ modOf ok 12 < 4) :
    Calls Try.prog 36 #[.pointer (some ⟨g, 0, none⟩), .pointer (some ⟨gx, 0, none⟩), .agg #[.int .i64 ok, .int .i64 oi, .int .i64 ot, .int .i64 on, .int .i64 om, .int .i64 oa, .slice A6 n6 c6, .slice A7 n7 c7]] w (DoPost w0 g gx) := by
  unfold DoPost
  obtain ⟨mk, hmk⟩ : ∃ mk, mk = modOf om 3 := ⟨_, rfl⟩
  obtain ⟨rn, hrn⟩ : ∃ rn, rn = modOf on 13 := ⟨_, rfl⟩
  obtain ⟨kk, hkk⟩ : ∃ kk, kk = modOf ok 12 := ⟨_, rfl⟩
  have hmr := modOf_range om 3 (by omega)
  rw [← hmk] at hmr
  obtain ⟨hm0, hm1⟩ := hmr
  rw [← hrn] at hraw
  rw [← hkk] at hk
  have HMK := Lib.hid hmk
  have HRN := Lib.hid hrn
  have HKK := Lib.hid hkk
  obtain ⟨W1, hW1⟩ : ∃ W1, W1 = w.alloc (.cells #[.int .i64 ok, .int .i64 oi, .int .i64 ot, .int .i64 on, .int .i64 om, .int .i64 oa, .slice A6 n6 c6, .slice A7 n7 c7] 64) := ⟨_, rfl⟩
  have B1 := Lib.hid (show Below w.heap.size w W1 by rw [hW1]; exact (Below.refl _ _).alloc (Nat.le_refl _) _)
  have K1 := Lib.hid (show Blk W1 w.heap.size [.int .i64 ok, .int .i64 oi, .int .i64 ot, .int .i64 on, .int .i64 om, .int .i64 oa, .slice A6 n6 c6, .slice A7 n7 c7] by rw [hW1]; exact Blk.new rfl rfl)
  have HW1 := Lib.hid hW1
  obtain ⟨S1, hS1⟩ : ∃ S1, S1 = (fun k => S k ∨ (w.heap.size ≤ k ∧ k < W1.heap.size)) := ⟨_, rfl⟩
  have P1 := Lib.hid (show Pair w0 W1 S1 g gx x x by rw [hS1]; exact h.below B1.out)
  have HF := Lib.hid hf
  have S6 := Lib.hid s6
  have S7 := Lib.hid s7
  have drw : (rn == 12) = true := by simpa using hraw
  have drwd : decide (rn = 12) = true := by exact decide_eq_true hraw
  have q0 := K1.out.1 0 _ rfl
  have q1 := K1.out.1 1 _ rfl
  have q2 := K1.out.1 2 _ rfl
  have q3 := K1.out.1 3 _ rfl
  have q4 := K1.out.1 4 _ rfl
  have q5 := K1.out.1 5 _ rfl
  have q6 := K1.out.1 6 _ rfl
  have q7 := K1.out.1 7 _ rfl
  have hWs : w.heap.size < W1.heap.size := K1.out.lt
  clear hmk hrn hkk hW1 hS1 h hf s6 s7
  have dk2 : decide (kk < 2) = false := decide_eq_false (by omega)
  have dk4 : decide (kk < 4) = true := decide_eq_true (by omega)
  have h4r := modOf_range on 4 (by omega)
  obtain ⟨m4, hm4⟩ := Int.eq_ofNat_of_zero_le (show 0 ≤ 1 + modOf on 4 by omega)
  have hw4 : IntKind.i64.wrap (1 + modOf on 4) = (m4 : Int) := by rw [← hm4]; exact IntWalk.i64_in _ (by omega)
  have hm44 : m4 ≤ 4 := by omega
  obtain ⟨Ax, cx, hblk⟩ := P1.out.refAt
  have KX := Lib.hid hblk
  have k5 := hblk.1 5 _ rfl
  obtain ⟨xa, hxa⟩ : ∃ xa, xa = x.after := ⟨_, rfl⟩
  rw [← hxa] at hca k5
  obtain ⟨hca1, hca2⟩ := hca
  have hca3 : 0 ≤ xa := by omega
  have SL6 := Lib.hid (show IsSl rowRep W1.drew (· < W1.drew.heap.size) A6 n6 rows from ((S6.out.below P1.out.win.bel).more P1.out.win.bel.size).keep (fun _ _ => rfl))
  have PD := Lib.hid (show Pair w0 W1.drew S1 g gx x x from P1.out.drewN 1)
  have HN6 := Lib.hid hm6
  have HXA := Lib.hid hxa
  have HFX := Lib.hid (show x.n ≤ 64 from HF.out.2.2.2.2.2)
  clear hxa hblk hm4 h4r hm6
  have hn6i : ¬ (80 : Int) < (n6 : Int) := by omega
  have SR6 := Lib.hid S6.out
  have hc6i : (n6 : Int) ≤ (c6 : Int) := by omega
  have hn60 : (0 : Int) ≤ (n6 : Int) := by omega
  clear hp
  clear hraw hk
  go_enter Try.func36, Try.ntmps36
  go_wp2_with (first
    | (go_at_call 19; (with_reducible refine (big_any om 3 _ (by omega) (by omega)).mono ?_); rintro e w' ⟨rfl, rfl⟩; rw [← HMK.out])
    | (go_at_call 15; (with_reducible refine (mod_any on 13 _ (by omega) (by omega)).mono ?_); rintro e w' ⟨rfl, rfl⟩; rw [← HRN.out])
    | (go_at_call 15; (with_reducible refine (mod_any ok 12 _ (by omega) (by omega)).mono ?_); rintro e w' ⟨rfl, rfl⟩; rw [← HKK.out])
    | fail)
  rw [← HW1.out]
  go_region_held3 (fun w' => w'.cell? ⟨w.heap.size, 6, none⟩ = some (.slice A6 n6 c6) ∧ w'.cell? ⟨w.heap.size, 3, none⟩ = some (.int .i64 on) ∧ w'.cell? ⟨gx, 5, none⟩ = some (.int .i64 xa)) (first | exact ⟨q6, q3, k5⟩ | exact HK2.out | fail)
    (first
    | (go_at_call 15; (with_reducible refine (mod_any on 4 _ (by omega) (by omega)).mono ?_); rintro e w' ⟨rfl, rfl⟩)
    | (go_at_call 33; (with_reducible refine (rows26_len A6 n6 c6 rows _ m4 (m4 : Int) rfl _ SL6.out (by constructor <;> omega) (by omega) HN6.out).mono ?_); rintro e w2 ⟨v2, rr, rfl, own2, hrl2, bel2⟩; have HRL := Lib.hid (show rr.length ≤ 100 by omega); obtain ⟨A2, n2, rfl⟩ := own2.form; obtain ⟨rn2, hrn2⟩ : ∃ rn2, rn2 = rr.length := ⟨_, rfl⟩; rw [← hrn2] at own2 ⊢; have HRN2 := Lib.hid hrn2; have OW2 := Lib.hid own2; have B2 := Lib.hid bel2; have KX2 := Lib.hid (show Blk w2 gx _ from (show Blk W1.drew gx _ from KX.out).after bel2); have KO2 := Lib.hid (show Blk w2 w.heap.size _ from (show Blk W1.drew w.heap.size _ from K1.out).after bel2); have HK2 := Lib.hid (show w2.cell? ⟨w.heap.size, 6, none⟩ = some (.slice A6 n6 c6) ∧ w2.cell? ⟨w.heap.size, 3, none⟩ = some (.int .i64 on) ∧ w2.cell? ⟨gx, 5, none⟩ = some (.int .i64 xa) from ⟨KO2.out.1 6 _ rfl, KO2.out.1 3 _ rfl, (by rw [HXA.out]; exact KX2.out.1 5 _ rfl)⟩); clear own2 bel2 hrl2 hrn2)
    | fail)
  all_goals
    have P2 := Lib.hid (PD.out.below B2.out)
    have LS2 := Lib.hid (show Lst rowRep w2 _ gx A2 rn2 rr from Lst.ofOwn PD.out B2.out OW2.out)
    have hl100 := HRL.out
    rw [← HRN2.out] at hl100
    have hrm : rn2 ≤ maxLen := by simp only [maxLen]; omega
    clear hl100
    have LSR := Lib.hid (show Lst rowRep w2 _ gx A6 n6 (rows.take n6) from (Lst.old P2.out S6.out).cutTo (by omega))
    obtain ⟨r6, r3, r5⟩ := HK2.out
    have hwm : n6 ≤ maxLen := by simp only [maxLen]; omega
    go_wp2_with (first
      | (go_at_call 24; (with_reducible refine (pr_fill_w P2.out A6 n6 c6 (rows.take n6) LSR.out HFX.out hwm).mono ?_); rintro e w3 ⟨rfl, p3, l3⟩; have P3 := Lib.hid p3; have LS3 := Lib.hid l3; clear p3 l3)
      | (go_at_call 68; (with_reducible refine (pr_fill_r P3.out A6 n6 c6 (rows.take n6) LS3.out HFX.out hwm).mono ?_); rintro e w4 ⟨rfl, S4, p4⟩; have P4 := Lib.hid p4; clear p4)
      | fail)
    go_ret
    exact ⟨rfl, S4, _, P4.out, HF.out.filled _⟩
set_option maxHeartbeats 16000000 in
set_option maxRecDepth 100000 in
theorem do_fill_raw1c (h : Pair w0 w S g gx x x) (hf : Fine x) (ok oi ot on om oa : Int) (A6 : Option Addr) (n6 c6 : Nat) (A7 : Option Addr) (n7 c7 : Nat) (rows : List Row) (chs : List Chg) (s6 : IsSl rowRep w0 (· < w0.heap.size) A6 n6 rows) (s7 : IsSl chgRep w0 (· < w0.heap.size) A7 n7 chs) (hm6 : n6 ≤ maxLen) (hc6 : n6 ≤ c6) (hp : n6 ≤ 80) (hca : 1099511627776 < x.after) (hraw : modOf on 13 = 12) (hk : ¬ modOf ok 12 < 2 ∧ modOf ok 12 < 4) :
    Calls Try.prog 36 #[.pointer (some ⟨g, 0, none⟩), .pointer (some ⟨gx, 0, none⟩), .agg #[.int .i64 ok, .int .i64 oi, .int .i64 ot, .int .i64 on, .int .i64 om, .int .i64 oa, .slice A6 n6 c6, .slice A7 n7 c7]] w (DoPost w0 g gx) := by
  unfold DoPost
  obtain ⟨mk, hmk⟩ : ∃ mk, mk = modOf om 3 := ⟨_, rfl⟩
  obtain ⟨rn, hrn⟩ : ∃ rn, rn = modOf on 13 := ⟨_, rfl⟩
  obtain ⟨kk, hkk⟩ : ∃ kk, kk = modOf ok 12 := ⟨_, rfl⟩
  have hmr := modOf_range om 3 (by omega)
  rw [← hmk] at hmr
  obtain ⟨hm0, hm1⟩ := hmr
  rw [← hrn] at hraw
  rw [← hkk] at hk
  have HMK := Lib.hid hmk
  have HRN := Lib.hid hrn
  have HKK := Lib.hid hkk
  obtain ⟨W1, hW1⟩ : ∃ W1, W1 = w.alloc (.cells #[.int .i64 ok, .int .i64 oi, .int .i64 ot, .int .i64 on, .int .i64 om, .int .i64 oa, .slice A6 n6 c6, .slice A7 n7 c7] 64) := ⟨_, rfl⟩
  have B1 := Lib.hid (show Below w.heap.size w W1 by rw [hW1]; exact (Below.refl _ _).alloc (Nat.le_refl _) _)
  have K1 := Lib.hid (show Blk W1 w.heap.size [.int .i64 ok, .int .i64 oi, .int .i64 ot, .int .i64 on, .int .i64 om, .int .i64 oa, .slice A6 n6 c6, .slice A7 n7 c7] by rw [hW1]; exact Blk.new rfl rfl)
  have HW1 := Lib.hid hW1
  obtain ⟨S1, hS1⟩ : ∃ S1, S1 = (fun k => S k ∨ (w.heap.size ≤ k ∧ k < W1.heap.size)) := ⟨_, rfl⟩
  have P1 := Lib.hid (show Pair w0 W1 S1 g gx x x by rw [hS1]; exact h.below B1.out)
  have HF := Lib.hid hf
  have S6 := Lib.hid s6
  have S7 := Lib.hid s7
  have drw : (rn == 12) = true := by simpa using hraw
  have drwd : decide (rn = 12) = true := by exact decide_eq_true hraw
  have q0 := K1.out.1 0 _ rfl
  have q1 := K1.out.1 1 _ rfl
  have q2 := K1.out.1 2 _ rfl
  have q3 := K1.out.1 3 _ rfl
  have q4 := K1.out.1 4 _ rfl
  have q5 := K1.out.1 5 _ rfl
  have q6 := K1.out.1 6 _ rfl
  have q7 := K1.out.1 7 _ rfl
  have hWs : w.heap.size < W1.heap.size := K1.out.lt
  clear hmk hrn hkk hW1 hS1 h hf s6 s7
  have dk2 : decide (kk < 2) = false := decide_eq_false (by omega)
  have dk4 : decide (kk < 4) = true := decide_eq_true (by omega)
  have h4r := modOf_range on 4 (by omega)
  obtain ⟨m4, hm4⟩ := Int.eq_ofNat_of_zero_le (show 0 ≤ 1 + modOf on 4 by omega)
  have hw4 : IntKind.i64.wrap (1 + modOf on 4) = (m4 : Int) := by rw [← hm4]; exact IntWalk.i64_in _ (by omega)
  have hm44 : m4 ≤ 4 := by omega
  obtain ⟨Ax, cx, hblk⟩ := P1.out.refAt
  have KX := Lib.hid hblk
  have k5 := hblk.1 5 _ rfl
  obtain ⟨xa, hxa⟩ : ∃ xa, xa = x.after := ⟨_, rfl⟩
  rw [← hxa] at hca k5
  have hca1 : ¬ xa < 0 := by omega
  have hca3 : 0 ≤ xa := by omega
  have SL6 := Lib.hid (show IsSl rowRep W1.drew (· < W1.drew.heap.size) A6 n6 rows from ((S6.out.below P1.out.win.bel).more P1.out.win.bel.size).keep (fun _ _ => rfl))
  have PD := Lib.hid (show Pair w0 W1.drew S1 g gx x x from P1.out.drewN 1)
  have HN6 := Lib.hid hm6
  have HXA := Lib.hid hxa
  have HFX := Lib.hid (show x.n ≤ 64 from HF.out.2.2.2.2.2)
  clear hxa hblk hm4 h4r hm6
  have hn6i : ¬ (80 : Int) < (n6 : Int) := by omega
  have SR6 := Lib.hid S6.out
  have hc6i : (n6 : Int) ≤ (c6 : Int) := by omega
  have hn60 : (0 : Int) ≤ (n6 : Int) := by omega
  clear hp
  clear hraw hk
  go_enter Try.func36, Try.ntmps36
  go_wp2_with (first
    | (go_at_call 19; (with_reducible refine (big_any om 3 _ (by omega) (by omega)).mono ?_); rintro e w' ⟨rfl, rfl⟩; rw [← HMK.out])
    | (go_at_call 15; (with_reducible refine (mod_any on 13 _ (by omega) (by omega)).mono ?_); rintro e w' ⟨rfl, rfl⟩; rw [← HRN.out])
    | (go_at_call 15; (with_reducible refine (mod_any ok 12 _ (by omega) (by omega)).mono ?_); rintro e w' ⟨rfl, rfl⟩; rw [← HKK.out])
    | fail)
  rw [← HW1.out]
  go_region_held3 (fun w' => w'.cell? ⟨w.heap.size, 6, none⟩ = some (.slice A6 n6 c6) ∧ w'.cell? ⟨w.heap.size, 3, none⟩ = some (.int .i64 on) ∧ w'.cell? ⟨gx, 5, none⟩ = some (.int .i64 xa)) (first | exact ⟨q6, q3, k5⟩ | exact HK2.out | fail)
    (first
    | (go_at_call 15; (with_reducible refine (mod_any on 4 _ (by omega) (by omega)).mono ?_); rintro e w' ⟨rfl, rfl⟩)
    | (go_at_call 33; (with_reducible refine (rows26_len A6 n6 c6 rows _ m4 (m4 : Int) rfl _ SL6.out (by constructor <;> omega) (by omega) HN6.out).mono ?_); rintro e w2 ⟨v2, rr, rfl, own2, hrl2, bel2⟩; have HRL := Lib.hid (show rr.length ≤ 100 by omega); obtain ⟨A2, n2, rfl⟩ := own2.form; obtain ⟨rn2, hrn2⟩ : ∃ rn2, rn2 = rr.length := ⟨_, rfl⟩; rw [← hrn2] at own2 ⊢; have HRN2 := Lib.hid hrn2; have OW2 := Lib.hid own2; have B2 := Lib.hid bel2; have KX2 := Lib.hid (show Blk w2 gx _ from (show Blk W1.drew gx _ from KX.out).after bel2); have KO2 := Lib.hid (show Blk w2 w.heap.size _ from (show Blk W1.drew w.heap.size _ from K1.out).after bel2); have HK2 := Lib.hid (show w2.cell? ⟨w.heap.size, 6, none⟩ = some (.slice A6 n6 c6) ∧ w2.cell? ⟨w.heap.size, 3, none⟩ = some (.int .i64 on) ∧ w2.cell? ⟨gx, 5, none⟩ = some (.int .i64 xa) from ⟨KO2.out.1 6 _ rfl, KO2.out.1 3 _ rfl, (by rw [HXA.out]; exact KX2.out.1 5 _ rfl)⟩); clear own2 bel2 hrl2 hrn2)
    | fail)
  all_goals
    have P2 := Lib.hid (PD.out.below B2.out)
    have LS2 := Lib.hid (show Lst rowRep w2 _ gx A2 rn2 rr from Lst.ofOwn PD.out B2.out OW2.out)
    have hl100 := HRL.out
    rw [← HRN2.out] at hl100
    have hrm : rn2 ≤ maxLen := by simp only [maxLen]; omega
    clear hl100
    have LSR := Lib.hid (show Lst rowRep w2 _ gx A6 n6 (rows.take n6) from (Lst.old P2.out S6.out).cutTo (by omega))
    obtain ⟨r6, r3, r5⟩ := HK2.out
    have hwm : n6 ≤ maxLen := by simp only [maxLen]; omega
    go_wp2_with (first
      | (go_at_call 24; (with_reducible refine (pr_fill_w P2.out A6 n6 c6 (rows.take n6) LSR.out HFX.out hwm).mono ?_); rintro e w3 ⟨rfl, p3, l3⟩; have P3 := Lib.hid p3; have LS3 := Lib.hid l3; clear p3 l3)
      | (go_at_call 68; (with_reducible refine (pr_fill_r P3.out A6 n6 c6 (rows.take n6) LS3.out HFX.out hwm).mono ?_); rintro e w4 ⟨rfl, S4, p4⟩; have P4 := Lib.hid p4; clear p4)
      | fail)
    go_ret
    exact ⟨rfl, S4, _, P4.out, HF.out.filled _⟩
theorem do_fill_raw1 (h : Pair w0 w S g gx x x) (hf : Fine x) (ok oi ot on om oa : Int) (A6 : Option Addr) (n6 c6 : Nat) (A7 : Option Addr) (n7 c7 : Nat) (rows : List Row) (chs : List Chg) (s6 : IsSl rowRep w0 (· < w0.heap.size) A6 n6 rows) (s7 : IsSl chgRep w0 (· < w0.heap.size) A7 n7 chs) (hm6 : n6 ≤ maxLen) (hc6 : n6 ≤ c6) (hp : n6 ≤ 80) (hraw : modOf on 13 = 12) (hk : ¬ modOf ok 12 < 2 ∧ modOf ok 12 < 4) :
    Calls Try.prog 36 #[.pointer (some ⟨g, 0, none⟩), .pointer (some ⟨gx, 0, none⟩), .agg #[.int .i64 ok, .int .i64 oi, .int .i64 ot, .int .i64 on, .int .i64 om, .int .i64 oa, .slice A6 n6 c6, .slice A7 n7 c7]] w (DoPost w0 g gx) := by
  by_cases h1 : x.after < 0
  · exact do_fill_raw1a h hf ok oi ot on om oa A6 n6 c6 A7 n7 c7 rows chs s6 s7 hm6 hc6 hp h1 hraw hk
  · by_cases h2 : 1099511627776 < x.after
    · exact do_fill_raw1c h hf ok oi ot on om oa A6 n6 c6 A7 n7 c7 rows chs s6 s7 hm6 hc6 hp h2 hraw hk
    · exact do_fill_raw1b h hf ok oi ot on om oa A6 n6 c6 A7 n7 c7 rows chs s6 s7 hm6 hc6 hp ⟨h1, h2⟩ hraw hk
set_option maxHeartbeats 16000000 in
set_option maxRecDepth 100000 in
theorem do_fill_raw2a (h : Pair w0 w S g gx x x) (hf : Fine x) (ok oi ot on om oa : Int) (A6 : Option Addr) (n6 c6 : Nat) (A7 : Option Addr) (n7 c7 : Nat) (rows : List Row) (chs : List Chg) (s6 : IsSl rowRep w0 (· < w0.heap.size) A6 n6 rows) (s7 : IsSl chgRep w0 (· < w0.heap.size) A7 n7 chs) (hm6 : n6 ≤ maxLen) (hc6 : n6 ≤ c6) (hp : ¬ n6 ≤ 80) (hca : x.after < 0) (hraw : modOf on 13 = 12) (hk : ¬ modOf ok 12 < 2 ∧ modOf ok 12 < 4) :
    Calls Try.prog 36 #[.pointer (some ⟨g, 0, none⟩), .pointer (some ⟨gx, 0, none⟩), .agg #[.int .i64 ok, .int .i64 oi, .int .i64 ot, .int .i64 on, .int .i64 om, .int .i64 oa, .slice A6 n6 c6, .slice A7 n7 c7]] w (DoPost w0 g gx) := by
  unfold DoPost
  obtain ⟨mk, hmk⟩ : ∃ mk, mk = modOf om 3 := ⟨_, rfl⟩
  obtain ⟨rn, hrn⟩ : ∃ rn, rn = modOf on 13 := ⟨_, rfl⟩
  obtain ⟨kk, hkk⟩ : ∃ kk, kk = modOf ok 12 := ⟨_, rfl⟩
  have hmr := modOf_range om 3 (by omega)
  rw [← hmk] at hmr
  obtain ⟨hm0, hm1⟩ := hmr
  rw [← hrn] at hraw
  rw [← hkk] at hk
  have HMK := Lib.hid hmk
  have HRN := Lib.hid hrn
  have HKK := Lib.hid hkk
  obtain ⟨W1, hW1⟩ : ∃ W1, W1 = w.alloc (.cells #[.int .i64 ok, .int .i64 oi, .int .i64 ot, .int .i64 on, .int .i64 om, .int .i64 oa, .slice A6 n6 c6, .slice A7 n7 c7] 64) := ⟨_, rfl⟩
  have B1 := Lib.hid (show Below w.heap.size w W1 by rw [hW1]; exact (Below.refl _ _).alloc (Nat.le_refl _) _)
  have K1 := Lib.hid (show Blk W1 w.heap.size [.int .i64 ok, .int .i64 oi, .int .i64 ot, .int .i64 on, .int .i64 om, .int .i64 oa, .slice A6 n6 c6, .slice A7 n7 c7] by rw [hW1]; exact Blk.new rfl rfl)
  have HW1 := Lib.hid hW1
  obtain ⟨S1, hS1⟩ : ∃ S1, S1 = (fun k => S k ∨ (w.heap.size ≤ k ∧ k < W1.heap.size)) := ⟨_, rfl⟩
  have P1 := Lib.hid (show Pair w0 W1 S1 g gx x x by rw [hS1]; exact h.below B1.out)
  have HF := Lib.hid hf
  have S6 := Lib.hid s6
  have S7 := Lib.hid s7
  have drw : (rn == 12) = true := by simpa using hraw
  have drwd : decide (rn = 12) = true := by exact decide_eq_true hraw
  have q0 := K1.out.1 0 _ rfl
  have q1 := K1.out.1 1 _ rfl
  have q2 := K1.out.1 2 _ rfl
  have q3 := K1.out.1 3 _ rfl
  have q4 := K1.out.1 4 _ rfl
  have q5 := K1.out.1 5 _ rfl
  have q6 := K1.out.1 6 _ rfl
  have q7 := K1.out.1 7 _ rfl
  have hWs : w.heap.size < W1.heap.size := K1.out.lt
  clear hmk hrn hkk hW1 hS1 h hf s6 s7
  have dk2 : decide (kk < 2) = false := decide_eq_false (by omega)
  have dk4 : decide (kk < 4) = true := decide_eq_true (by omega)
  have h4r := modOf_range on 4 (by omega)
  obtain ⟨m4, hm4⟩ := Int.eq_ofNat_of_zero_le (show 0 ≤ 1 + modOf on 4 by omega)
  have hw4 : IntKind.i64.wrap (1 + modOf on 4) = (m4 : Int) := by rw [← hm4]; exact IntWalk.i64_in _ (by omega)
  have hm44 : m4 ≤ 4 := by omega
  obtain ⟨Ax, cx, hblk⟩ := P1.out.refAt
  have KX := Lib.hid hblk
  have k5 := hblk.1 5 _ rfl
  obtain ⟨xa, hxa⟩ : ∃ xa, xa = x.after := ⟨_, rfl⟩
  rw [← hxa] at hca k5
  have hca2 : ¬ 0 ≤ xa := by omega
  have SL6 := Lib.hid (show IsSl rowRep W1.drew (· < W1.drew.heap.size) A6 n6 rows from ((S6.out.below P1.out.win.bel).more P1.out.win.bel.size).keep (fun _ _ => rfl))
  have PD := Lib.hid (show Pair w0 W1.drew S1 g gx x x from P1.out.drewN 1)
  have HN6 := Lib.hid hm6
  have HXA := Lib.hid hxa
  have HFX := Lib.hid (show x.n ≤ 64 from HF.out.2.2.2.2.2)
  clear hxa hblk hm4 h4r hm6
  have hn6i : (80 : Int) < (n6 : Int) := by omega
  have SR6 := Lib.hid S6.out
  have hc6i : (n6 : Int) ≤ (c6 : Int) := by omega
  have hn60 : (0 : Int) ≤ (n6 : Int) := by omega
  have h80c : (80 : Int) ≤ (c6 : Int) := by omega
  clear hp
  clear hraw hk
  go_enter Try.func36, Try.ntmps36
  go_wp2_with (first
    | (go_at_call 19; (with_reducible refine (big_any om 3 _ (by omega) (by omega)).mono ?_); rintro e w' ⟨rfl, rfl⟩; rw [← HMK.out])
    | (go_at_call 15; (with_reducible refine (mod_any on 13 _ (by omega) (by omega)).mono ?_); rintro e w' ⟨rfl, rfl⟩; rw [← HRN.out])
    | (go_at_call 15; (with_reducible refine (mod_any ok 12 _ (by omega) (by omega)).mono ?_); rintro e w' ⟨rfl, rfl⟩; rw [← HKK.out])
    | fail)
  rw [← HW1.out]
  go_region_held3 (fun w' => w'.cell? ⟨w.heap.size, 6, none⟩ = some (.slice A6 n6 c6) ∧ w'.cell? ⟨w.heap.size, 3, none⟩ = some (.int .i64 on) ∧ w'.cell? ⟨gx, 5, none⟩ = some (.int .i64 xa)) (first | exact ⟨q6, q3, k5⟩ | exact HK2.out | fail)
    (first
    | (go_at_call 15; (with_reducible refine (mod_any on 4 _ (by omega) (by omega)).mono ?_); rintro e w' ⟨rfl, rfl⟩)
    | (go_at_call 33; (with_reducible refine (rows26_len A6 n6 c6 rows _ m4 (m4 : Int) rfl _ SL6.out (by constructor <;> omega) (by omega) HN6.out).mono ?_); rintro e w2 ⟨v2, rr, rfl, own2, hrl2, bel2⟩; have HRL := Lib.hid (show rr.length ≤ 100 by omega); obtain ⟨A2, n2, rfl⟩ := own2.form; obtain ⟨rn2, hrn2⟩ : ∃ rn2, rn2 = rr.length := ⟨_, rfl⟩; rw [← hrn2] at own2 ⊢; have HRN2 := Lib.hid hrn2; have OW2 := Lib.hid own2; have B2 := Lib.hid bel2; have KX2 := Lib.hid (show Blk w2 gx _ from (show Blk W1.drew gx _ from KX.out).after bel2); have KO2 := Lib.hid (show Blk w2 w.heap.size _ from (show Blk W1.drew w.heap.size _ from K1.out).after bel2); have HK2 := Lib.hid (show w2.cell? ⟨w.heap.size, 6, none⟩ = some (.slice A6 n6 c6) ∧ w2.cell? ⟨w.heap.size, 3, none⟩ = some (.int .i64 on) ∧ w2.cell? ⟨gx, 5, none⟩ = some (.int .i64 xa) from ⟨KO2.out.1 6 _ rfl, KO2.out.1 3 _ rfl, (by rw [HXA.out]; exact KX2.out.1 5 _ rfl)⟩); clear own2 bel2 hrl2 hrn2)
    | fail)
  all_goals
    have P2 := Lib.hid (PD.out.below B2.out)
    have LS2 := Lib.hid (show Lst rowRep w2 _ gx A2 rn2 rr from Lst.ofOwn PD.out B2.out OW2.out)
    have hl100 := HRL.out
    rw [← HRN2.out] at hl100
    have hrm : rn2 ≤ maxLen := by simp only [maxLen]; omega
    clear hl100
    have LSR := Lib.hid (show Lst rowRep w2 _ gx A6 80 (rows.take 80) from (Lst.old P2.out S6.out).cutTo (by omega))
    obtain ⟨r6, r3, r5⟩ := HK2.out
    have hwm : 80 ≤ maxLen := by simp only [maxLen]; omega
    go_wp2_with (first
      | (go_at_call 24; (with_reducible refine (pr_fill_w P2.out A6 80 c6 (rows.take 80) LSR.out HFX.out hwm).mono ?_); rintro e w3 ⟨rfl, p3, l3⟩; have P3 := Lib.hid p3; have LS3 := Lib.hid l3; clear p3 l3)
      | (go_at_call 68; (with_reducible refine (pr_fill_r P3.out A6 80 c6 (rows.take 80) LS3.out HFX.out hwm).mono ?_); rintro e w4 ⟨rfl, S4, p4⟩; have P4 := Lib.hid p4; clear p4)
      | fail)
    go_ret
    exact ⟨rfl, S4, _, P4.out, HF.out.filled _⟩
set_option maxHeartbeats 16000000 in
set_option maxRecDepth 100000 in
theorem do_fill_raw2b (h : Pair w0 w S g gx x x) (hf : Fine x) (ok oi ot on om oa : Int) (A6 : Option Addr) (n6 c6 : Nat) (A7 : Option Addr) (n7 c7 : Nat) (rows : List Row) (chs : List Chg) (s6 : IsSl rowRep w0 (· < w0.heap.size) A6 n6 rows) (s7 : IsSl chgRep w0 (· < w0.heap.size) A7 n7 chs) (hm6 : n6 ≤ maxLen) (hc6 : n6 ≤ c6) (hp : ¬ n6 ≤ 80) (hca : ¬ x.after < 0 ∧ ¬ 1099511627776 < x.after) (hraw : modOf on 13 = 12) (hk : ¬ modOf ok 12 < 2 ∧ modOf ok 12 < 4) :
    Calls Try.prog 36 #[.pointer (some ⟨g, 0, none⟩), .pointer (some ⟨gx, 0, none⟩), .agg #[.int .i64 ok, .int .i64 oi, .int .i64 ot, .int .i64 on, .int .i64 om, .int .i64 oa, .slice A6 n6 c6, .slice A7 n7 c7]] w (DoPost w0 g gx) := by
  unfold DoPost
  obtain ⟨mk, hmk⟩ : ∃ mk, mk = modOf om 3 := ⟨_, rfl⟩
  obtain ⟨rn, hrn⟩ : ∃ rn, rn = modOf on 13 := ⟨_, rfl⟩
  obtain ⟨kk, hkk⟩ : ∃ kk, kk = modOf ok 12 := ⟨_, rfl⟩
  have hmr := modOf_range om 3 (by omega)
  rw [← hmk] at hmr
  obtain ⟨hm0, hm1⟩ := hmr
  rw [← hrn] at hraw
  rw [← hkk] at hk
  have HMK := Lib.hid hmk
  have HRN := Lib.hid hrn
  have HKK := Lib.hid hkk
  obtain ⟨W1, hW1⟩ : ∃ W1, W1 = w.alloc (.cells #[.int .i64 ok, .int .i64 oi, .int .i64 ot, .int .i64 on, .int .i64 om, .int .i64 oa, .slice A6 n6 c6, .slice A7 n7 c7] 64) := ⟨_, rfl⟩
  have B1 := Lib.hid (show Below w.heap.size w W1 by rw [hW1]; exact (Below.refl _ _).alloc (Nat.le_refl _) _)
  have K1 := Lib.hid (show Blk W1 w.heap.size [.int .i64 ok, .int .i64 oi, .int .i64 ot, .int .i64 on, .int .i64 om, .int .i64 oa, .slice A6 n6 c6, .slice A7 n7 c7] by rw [hW1]; exact Blk.new rfl rfl)
  have HW1 := Lib.hid hW1
  obtain ⟨S1, hS1⟩ : ∃ S1, S1 = (fun k => S k ∨ (w.heap.size ≤ k ∧ k < W1.heap.size)) := ⟨_, rfl⟩
  have P1 := Lib.hid (show Pair w0 W1 S1 g gx x x by rw [hS1]; exact h.below B1.out)
  have HF := Lib.hid hf
  have S6 := Lib.hid s6
  have S7 := Lib.hid s7
  have drw : (rn == 12) = true := by simpa using hraw
  have drwd : decide (rn = 12) = true := by exact decide_eq_true hraw
  have q0 := K1.out.1 0 _ rfl
  have q1 := K1.out.1 1 _ rfl
  have q2 := K1.out.1 2 _ rfl
  have q3 := K1.out.1 3 _ rfl
  have q4 := K1.out.1 4 _ rfl
  have q5 := K1.out.1 5 _ rfl
  have q6 := K1.out.1 6 _ rfl
  have q7 := K1.out.1 7 _ rfl
  have hWs : w.heap.size < W1.heap.size := K1.out.lt
  clear hmk hrn hkk hW1 hS1 h hf s6 s7
  have dk2 : decide (kk < 2) = false := decide_eq_false (by omega)
  have dk4 : decide (kk < 4) = true := decide_eq_true (by omega)
  have h4r := modOf_range on 4 (by omega)
  obtain ⟨m4, hm4⟩ := Int.eq_ofNat_of_zero_le (show 0 ≤ 1 + modOf on 4 by omega)
  have hw4 : IntKind.i64.wrap (1 + modOf on 4) = (m4 : Int) := by rw [← hm4]; exact IntWalk.i64_in _ (by omega)
  have hm44 : m4 ≤ 4 := by omega
  obtain ⟨Ax, cx, hblk⟩ := P1.out.refAt
  have KX := Lib.hid hblk
  have k5 := hblk.1 5 _ rfl
  obtain ⟨xa, hxa⟩ : ∃ xa, xa = x.after := ⟨_, rfl⟩
  rw [← hxa] at hca k5
  obtain ⟨hca1, hca2⟩ := hca
  have hca3 : 0 ≤ xa := by omega
  have SL6 := Lib.hid (show IsSl rowRep W1.drew (· < W1.drew.heap.size) A6 n6 rows from ((S6.out.below P1.out.win.bel).more P1.out.win.bel.size).keep (fun _ _ => rfl))
  have PD := Lib.hid (show Pair w0 W1.drew S1 g gx x x from P1.out.drewN 1)
  have HN6 := Lib.hid hm6
  have HXA := Lib.hid hxa
  have HFX := Lib.hid (show x.n ≤ 64 from HF.out.2.2.2.2.2)
  clear hxa hblk hm4 h4r hm6
  have hn6i : (80 : Int) < (n6 : Int) := by omega
  have SR6 := Lib.hid S6.out
  have hc6i : (n6 : Int) ≤ (c6 : Int) := by omega
  have hn60 : (0 : Int) ≤ (n6 : Int) := by omega
  have h80c : (80 : Int) ≤ (c6 : Int) := by omega
  clear hp
  clear hraw hk
  go_enter Try.func36, Try.ntmps36
  go_wp2_with (first
    | (go_at_call 19; (with_reducible refine (big_any om 3 _ (by omega) (by omega)).mono ?_); rintro e w' ⟨rfl, rfl⟩; rw [← HMK.out])
    | (go_at_call 15; (with_reducible refine (mod_any on 13 _ (by omega) (by omega)).mono ?_); rintro e w' ⟨rfl, rfl⟩; rw [← HRN.out])
    | (go_at_call 15; (with_reducible refine (mod_any ok 12 _ (by omega) (by omega)).mono ?_); rintro e w' ⟨rfl, rfl⟩; rw [← HKK.out])
    | fail)
  rw [← HW1.out]
  go_region_held3 (fun w' => w'.cell? ⟨w.heap.size, 6, none⟩ = some (.slice A6 n6 c6) ∧ w'.cell? ⟨w.heap.size, 3, none⟩ = some (.int .i64 on) ∧ w'.cell? ⟨gx, 5, none⟩ = some (.int .i64 xa)) (first | exact ⟨q6, q3, k5⟩ | exact HK2.out | fail)
    (first
    | (go_at_call 15; (with_reducible refine (mod_any on 4 _ (by omega) (by omega)).mono ?_); rintro e w' ⟨rfl, rfl⟩)
    | (go_at_call 33; (with_reducible refine (rows26_len A6 n6 c6 rows _ m4 (m4 : Int) rfl _ SL6.out (by constructor <;> omega) (by omega) HN6.out).mono ?_); rintro e w2 ⟨v2, rr, rfl, own2, hrl2, bel2⟩; have HRL := Lib.hid (show rr.length ≤ 100 by omega); obtain ⟨A2, n2, rfl⟩ := own2.form; obtain ⟨rn2, hrn2⟩ : ∃ rn2, rn2 = rr.length := ⟨_, rfl⟩; rw [← hrn2] at own2 ⊢; have HRN2 := Lib.hid hrn2; have OW2 := Lib.hid own2; have B2 := Lib.hid bel2; have KX2 := Lib.hid (show Blk w2 gx _ from (show Blk W1.drew gx _ from KX.out).after bel2); have KO2 := Lib.hid (show Blk w2 w.heap.size _ from (show Blk W1.drew w.heap.size _ from K1.out).after bel2); have HK2 := Lib.hid (show w2.cell? ⟨w.heap.size, 6, none⟩ = some (.slice A6 n6 c6) ∧ w2.cell? ⟨w.heap.size, 3, none⟩ = some (.int .i64 on) ∧ w2.cell? ⟨gx, 5, none⟩ = some (.int .i64 xa) from ⟨KO2.out.1 6 _ rfl, KO2.out.1 3 _ rfl, (by rw [HXA.out]; exact KX2.out.1 5 _ rfl)⟩); clear own2 bel2 hrl2 hrn2)
    | fail)
  all_goals
    have P2 := Lib.hid (PD.out.below B2.out)
    have LS2 := Lib.hid (show Lst rowRep w2 _ gx A2 rn2 rr from Lst.ofOwn PD.out B2.out OW2.out)
    have hl100 := HRL.out
    rw [← HRN2.out] at hl100
    have hrm : rn2 ≤ maxLen := by simp only [maxLen]; omega
    clear hl100
    have LSR := Lib.hid (show Lst rowRep w2 _ gx A6 80 (rows.take 80) from (Lst.old P2.out S6.out).cutTo (by omega))
    obtain ⟨r6, r3, r5⟩ := HK2.out
    have hwm : 80 ≤ maxLen := by simp only [maxLen]; omega
    go_wp2_with (first
      | (go_at_call 24; (with_reducible refine (pr_fill_w P2.out A6 80 c6 (rows.take 80) LSR.out HFX.out hwm).mono ?_); rintro e w3 ⟨rfl, p3, l3⟩; have P3 := Lib.hid p3; have LS3 := Lib.hid l3; clear p3 l3)
      | (go_at_call 68; (with_reducible refine (pr_fill_r P3.out A6 80 c6 (rows.take 80) LS3.out HFX.out hwm).mono ?_); rintro e w4 ⟨rfl, S4, p4⟩; have P4 := Lib.hid p4; clear p4)
      | fail)
    go_ret
    exact ⟨rfl, S4, _, P4.out, HF.out.filled _⟩
set_option maxHeartbeats 16000000 in
set_option maxRecDepth 100000 in
theorem do_fill_raw2c (h : Pair w0 w S g gx x x) (hf : Fine x) (ok oi ot on om oa : Int) (A6 : Option Addr) (n6 c6 : Nat) (A7 : Option Addr) (n7 c7 : Nat) (rows : List Row) (chs : List Chg) (s6 : IsSl rowRep w0 (· < w0.heap.size) A6 n6 rows) (s7 : IsSl chgRep w0 (· < w0.heap.size) A7 n7 chs) (hm6 : n6 ≤ maxLen) (hc6 : n6 ≤ c6) (hp : ¬ n6 ≤ 80) (hca : 1099511627776 < x.after) (hraw : modOf on 13 = 12) (hk : ¬ modOf ok 12 < 2 ∧ modOf ok 12 < 4) :
    Calls Try.prog 36 #[.pointer (some ⟨g, 0, none⟩), .pointer (some ⟨gx, 0, none⟩), .agg #[.int .i64 ok, .int .i64 oi, .int .i64 ot, .int .i64 on, .int .i64 om, .int .i64 oa, .slice A6 n6 c6, .slice A7 n7 c7]] w (DoPost w0 g gx) := by
  unfold DoPost
  obtain ⟨mk, hmk⟩ : ∃ mk, mk = modOf om 3 := ⟨_, rfl⟩
  obtain ⟨rn, hrn⟩ : ∃ rn, rn = modOf on 13 := ⟨_, rfl⟩
  obtain ⟨kk, hkk⟩ : ∃ kk, kk = modOf ok 12 := ⟨_, rfl⟩
  have hmr := modOf_range om 3 (by omega)
  rw [← hmk] at hmr
  obtain ⟨hm0, hm1⟩ := hmr
  rw [← hrn] at hraw
  rw [← hkk] at hk
  have HMK := Lib.hid hmk
  have HRN := Lib.hid hrn
  have HKK := Lib.hid hkk
  obtain ⟨W1, hW1⟩ : ∃ W1, W1 = w.alloc (.cells #[.int .i64 ok, .int .i64 oi, .int .i64 ot, .int .i64 on, .int .i64 om, .int .i64 oa, .slice A6 n6 c6, .slice A7 n7 c7] 64) := ⟨_, rfl⟩
  have B1 := Lib.hid (show Below w.heap.size w W1 by rw [hW1]; exact (Below.refl _ _).alloc (Nat.le_refl _) _)
  have K1 := Lib.hid (show Blk W1 w.heap.size [.int .i64 ok, .int .i64 oi, .int .i64 ot, .int .i64 on, .int .i64 om, .int .i64 oa, .slice A6 n6 c6, .slice A7 n7 c7] by rw [hW1]; exact Blk.new rfl rfl)
  have HW1 := Lib.hid hW1
  obtain ⟨S1, hS1⟩ : ∃ S1, S1 = (fun k => S k ∨ (w.heap.size ≤ k ∧ k < W1.heap.size)) := ⟨_, rfl⟩
  have P1 := Lib.hid (show Pair w0 W1 S1 g gx x x by rw [hS1]; exact h.below B1.out)
  have HF := Lib.hid hf
  have S6 := Lib.hid s6
  have S7 := Lib.hid s7
  have drw : (rn == 12) = true := by simpa using hraw
  have drwd : decide (rn = 12) = true := by exact decide_eq_true hraw
  have q0 := K1.out.1 0 _ rfl
  have q1 := K1.out.1 1 _ rfl
  have q2 := K1.out.1 2 _ rfl
  have q3 := K1.out.1 3 _ rfl
  have q4 := K1.out.1 4 _ rfl
  have q5 := K1.out.1 5 _ rfl
  have q6 := K1.out.1 6 _ rfl
  have q7 := K1.out.1 7 _ rfl
  have hWs : w.heap.size < W1.heap.size := K1.out.lt
  clear hmk hrn hkk hW1 hS1 h hf s6 s7
  have dk2 : decide (kk < 2) = false := decide_eq_false (by omega)
  have dk4 : decide (kk < 4) = true := decide_eq_true (by omega)
  have h4r := modOf_range on 4 (by omega)
  obtain ⟨m4, hm4⟩ := Int.eq_ofNat_of_zero_le (show 0 ≤ 1 + modOf on 4 by omega)
  have hw4 : IntKind.i64.wrap (1 + modOf on 4) = (m4 : Int) := by rw [← hm4]; exact IntWalk.i64_in _ (by omega)
  have hm44 : m4 ≤ 4 := by omega
  obtain ⟨Ax, cx, hblk⟩ := P1.out.refAt
  have KX := Lib.hid hblk
  have k5 := hblk.1 5 _ rfl
  obtain ⟨xa, hxa⟩ : ∃ xa, xa = x.after := ⟨_, rfl⟩
  rw [← hxa] at hca k5
  have hca1 : ¬ xa < 0 := by omega
  have hca3 : 0 ≤ xa := by omega
  have SL6 := Lib.hid (show IsSl rowRep W1.drew (· < W1.drew.heap.size) A6 n6 rows from ((S6.out.below P1.out.win.bel).more P1.out.win.bel.size).keep (fun _ _ => rfl))
  have PD := Lib.hid (show Pair w0 W1.drew S1 g gx x x from P1.out.drewN 1)
  have HN6 := Lib.hid hm6
  have HXA := Lib.hid hxa
  have HFX := Lib.hid (show x.n ≤ 64 from HF.out.2.2.2.2.2)
  clear hxa hblk hm4 h4r hm6
  have hn6i : (80 : Int) < (n6 : Int) := by omega
  have SR6 := Lib.hid S6.out
  have hc6i : (n6 : Int) ≤ (c6 : Int) := by omega
  have hn60 : (0 : Int) ≤ (n6 : Int) := by omega
  have h80c : (80 : Int) ≤ (c6 : Int) := by omega
  clear hp
  clear hraw hk
  go_enter Try.func36, Try.ntmps36
  go_wp2_with (first
    | (go_at_call 19; (with_reducible refine (big_any om 3 _ (by omega) (by omega)).mono ?_); rintro e w' ⟨rfl, rfl⟩; rw [← HMK.out])
    | (go_at_call 15; (with_reducible refine (mod_any on 13 _ (by omega) (by omega)).mono ?_); rintro e w' ⟨rfl, rfl⟩; rw [← HRN.out])
    | (go_at_call 15; (with_reducible refine (mod_any ok 12 _ (by omega) (by omega)).mono ?_); rintro e w' ⟨rfl, rfl⟩; rw [← HKK.out])
    | fail)
  rw [← HW1.out]
  go_region_held3 (fun w' => w'.cell? ⟨w.heap.size, 6, none⟩ = some (.slice A6 n6 c6) ∧ w'.cell? ⟨w.heap.size, 3, none⟩ = some (.int .i64 on) ∧ w'.cell? ⟨gx, 5, none⟩ = some (.int .i64 xa)) (first | exact ⟨q6, q3, k5⟩ | exact HK2.out | fail)
    (first
    | (go_at_call 15; (with_reducible refine (mod_any on 4 _ (by omega) (by omega)).mono ?_); rintro e w' ⟨rfl, rfl⟩)
    | (go_at_call 33; (with_reducible refine (rows26_len A6 n6 c6 rows _ m4 (m4 : Int) rfl _ SL6.out (by constructor <;> omega) (by omega) HN6.out).mono ?_); rintro e w2 ⟨v2, rr, rfl, own2, hrl2, bel2⟩; have HRL := Lib.hid (show rr.length ≤ 100 by omega); obtain ⟨A2, n2, rfl⟩ := own2.form; obtain ⟨rn2, hrn2⟩ : ∃ rn2, rn2 = rr.length := ⟨_, rfl⟩; rw [← hrn2] at own2 ⊢; have HRN2 := Lib.hid hrn2; have OW2 := Lib.hid own2; have B2 := Lib.hid bel2; have KX2 := Lib.hid (show Blk w2 gx _ from (show Blk W1.drew gx _ from KX.out).after bel2); have KO2 := Lib.hid (show Blk w2 w.heap.size _ from (show Blk W1.drew w.heap.size _ from K1.out).after bel2); have HK2 := Lib.hid (show w2.cell? ⟨w.heap.size, 6, none⟩ = some (.slice A6 n6 c6) ∧ w2.cell? ⟨w.heap.size, 3, none⟩ = some (.int .i64 on) ∧ w2.cell? ⟨gx, 5, none⟩ = some (.int .i64 xa) from ⟨KO2.out.1 6 _ rfl, KO2.out.1 3 _ rfl, (by rw [HXA.out]; exact KX2.out.1 5 _ rfl)⟩); clear own2 bel2 hrl2 hrn2)
    | fail)
  all_goals
    have P2 := Lib.hid (PD.out.below B2.out)
    have LS2 := Lib.hid (show Lst rowRep w2 _ gx A2 rn2 rr from Lst.ofOwn PD.out B2.out OW2.out)
    have hl100 := HRL.out
    rw [← HRN2.out] at hl100
    have hrm : rn2 ≤ maxLen := by simp only [maxLen]; omega
    clear hl100
    have LSR := Lib.hid (show Lst rowRep w2 _ gx A6 80 (rows.take 80) from (Lst.old P2.out S6.out).cutTo (by omega))
    obtain ⟨r6, r3, r5⟩ := HK2.out
    have hwm : 80 ≤ maxLen := by simp only [maxLen]; omega
    go_wp2_with (first
      | (go_at_call 24; (with_reducible refine (pr_fill_w P2.out A6 80 c6 (rows.take 80) LSR.out HFX.out hwm).mono ?_); rintro e w3 ⟨rfl, p3, l3⟩; have P3 := Lib.hid p3; have LS3 := Lib.hid l3; clear p3 l3)
      | (go_at_call 68; (with_reducible refine (pr_fill_r P3.out A6 80 c6 (rows.take 80) LS3.out HFX.out hwm).mono ?_); rintro e w4 ⟨rfl, S4, p4⟩; have P4 := Lib.hid p4; clear p4)
      | fail)
    go_ret
    exact ⟨rfl, S4, _, P4.out, HF.out.filled _⟩
theorem do_fill_raw2 (h : Pair w0 w S g gx x x) (hf : Fine x) (ok oi ot on om oa : Int) (A6 : Option Addr) (n6 c6 : Nat) (A7 : Option Addr) (n7 c7 : Nat) (rows : List Row) (chs : List Chg) (s6 : IsSl rowRep w0 (· < w0.heap.size) A6 n6 rows) (s7 : IsSl chgRep w0 (· < w0.heap.size) A7 n7 chs) (hm6 : n6 ≤ maxLen) (hc6 : n6 ≤ c6) (hp : ¬ n6 ≤ 80) (hraw : modOf on 13 = 12) (hk : ¬ modOf ok 12 < 2 ∧ modOf ok 12 < 4) :
    Calls Try.prog 36 #[.pointer (some ⟨g, 0, none⟩), .pointer (some ⟨gx, 0, none⟩), .agg #[.int .i64 ok, .int .i64 oi, .int .i64 ot, .int .i64 on, .int .i64 om, .int .i64 oa, .slice A6 n6 c6, .slice A7 n7 c7]] w (DoPost w0 g gx) := by
  by_cases h1 : x.after < 0
  · exact do_fill_raw2a h hf ok oi ot on om oa A6 n6 c6 A7 n7 c7 rows chs s6 s7 hm6 hc6 hp h1 hraw hk
  · by_cases h2 : 1099511627776 < x.after
    · exact do_fill_raw2c h hf ok oi ot on om oa A6 n6 c6 A7 n7 c7 rows chs s6 s7 hm6 hc6 hp h2 hraw hk
    · exact do_fill_raw2b h hf ok oi ot on om oa A6 n6 c6 A7 n7 c7 rows chs s6 s7 hm6 hc6 hp ⟨h1, h2⟩ hraw hk
set_option maxHeartbeats 16000000 in
set_option maxRecDepth 100000 in
theorem do_see_mod (h : Pair w0 w S g gx x x) (hf : Fine x) (ok oi ot on om oa : Int) (A6 : Option Addr) (n6 c6 : Nat) (A7 : Option Addr) (n7 c7 : Nat) (rows : List Row) (chs : List Chg) (s6 : IsSl rowRep w0 (· < w0.heap.size) A6 n6 rows) (s7 : IsSl chgRep w0 (· < w0.heap.size) A7 n7 chs) (hm6 : n6 ≤ maxLen) (hc6 : n6 ≤ c6) (hraw : modOf on 13 ≠ 12) (hk : ¬ modOf ok 12 < 7 ∧ modOf ok 12 < 9) :
    Calls Try.prog 36 #[.pointer (some ⟨g, 0, none⟩), .pointer (some ⟨gx, 0, none⟩), .agg #[.int .i64 ok, .int .i64 oi, .int .i64 ot, .int .i64 on, .int .i64 om, .int .i64 oa, .slice A6 n6 c6, .slice A7 n7 c7]] w (DoPost w0 g gx) := by
  unfold DoPost
  obtain ⟨mk, hmk⟩ : ∃ mk, mk = modOf om 3 := ⟨_, rfl⟩
  obtain ⟨rn, hrn⟩ : ∃ rn, rn = modOf on 13 := ⟨_, rfl⟩
  obtain ⟨kk, hkk⟩ : ∃ kk, kk = modOf ok 12 := ⟨_, rfl⟩
  have hmr := modOf_range om 3 (by omega)
  rw [← hmk] at hmr
  obtain ⟨hm0, hm1⟩ := hmr
  rw [← hrn] at hraw
  rw [← hkk] at hk
  have HMK := Lib.hid hmk
  have HRN := Lib.hid hrn
  have HKK := Lib.hid hkk
  obtain ⟨W1, hW1⟩ : ∃ W1, W1 = w.alloc (.cells #[.int .i64 ok, .int .i64 oi, .int .i64 ot, .int .i64 on, .int .i64 om, .int .i64 oa, .slice A6 n6 c6, .slice A7 n7 c7] 64) := ⟨_, rfl⟩
  have B1 := Lib.hid (show Below w.heap.size w W1 by rw [hW1]; exact (Below.refl _ _).alloc (Nat.le_refl _) _)
  have K1 := Lib.hid (show Blk W1 w.heap.size [.int .i64 ok, .int .i64 oi, .int .i64 ot, .int .i64 on, .int .i64 om, .int .i64 oa, .slice A6 n6 c6, .slice A7 n7 c7] by rw [hW1]; exact Blk.new rfl rfl)
  have HW1 := Lib.hid hW1
  obtain ⟨S1, hS1⟩ : ∃ S1, S1 = (fun k => S k ∨ (w.heap.size ≤ k ∧ k < W1.heap.size)) := ⟨_, rfl⟩
  have P1 := Lib.hid (show Pair w0 W1 S1 g gx x x by rw [hS1]; exact h.below B1.out)
  have HF := Lib.hid hf
  have S6 := Lib.hid s6
  have S7 := Lib.hid s7
  have drw : (rn == 12) = false := by simpa using hraw
  have drwd : decide (rn = 12) = false := by exact decide_eq_false hraw
  have q0 := K1.out.1 0 _ rfl
  have q1 := K1.out.1 1 _ rfl
  have q2 := K1.out.1 2 _ rfl
  have q3 := K1.out.1 3 _ rfl
  have q4 := K1.out.1 4 _ rfl
  have q5 := K1.out.1 5 _ rfl
  have q6 := K1.out.1 6 _ rfl
  have q7 := K1.out.1 7 _ rfl
  have hWs : w.heap.size < W1.heap.size := K1.out.lt
  clear hmk hrn hkk hW1 hS1 h hf s6 s7
  have dk2 : decide (kk < 2) = false := decide_eq_false (by omega)
  have dk4 : decide (kk < 4) = false := decide_eq_false (by omega)
  have ek4 : (kk == 4) = false := by simpa using (show ¬ kk = 4 by omega)
  have ek4d : decide (kk = 4) = false := decide_eq_false (by omega)
  have dk7 : decide (kk < 7) = false := decide_eq_false (by omega)
  have dk9 : decide (kk < 9) = true := decide_eq_true (by omega)
  have SL7 := Lib.hid (show IsSl chgRep W1 (· < W1.heap.size) A7 n7 chs from (S7.out.below P1.out.win.bel).more P1.out.win.bel.size)
  have HFX := Lib.hid (show x.rows.length ≤ 100000 from HF.out.1)
  clear hraw hk
  go_enter Try.func36, Try.ntmps36
  go_wp2_with (first
    | (go_at_call 19; (with_reducible refine (big_any om 3 _ (by omega) (by omega)).mono ?_); rintro e w' ⟨rfl, rfl⟩; rw [← HMK.out])
    | (go_at_call 15; (with_reducible refine (mod_any on 13 _ (by omega) (by omega)).mono ?_); rintro e w' ⟨rfl, rfl⟩; rw [← HRN.out])
    | (go_at_call 15; (with_reducible refine (mod_any ok 12 _ (by omega) (by omega)).mono ?_); rintro e w' ⟨rfl, rfl⟩; rw [← HKK.out])
    | (go_at_call 18; rw [← HW1.out]; (with_reducible refine (playChanges_any A7 n7 c7 chs 3 (by omega) (by omega) 6 6 rfl (by omega) W1 SL7.out).mono ?_); rintro e w2 ⟨v2, rfl, own2, bel2⟩; obtain ⟨cc, hcc⟩ : ∃ cc, cc = playChgs 3 6 chs := ⟨_, rfl⟩; rw [← hcc] at own2; obtain ⟨A2, n2, rfl⟩ := own2.form; obtain ⟨cn, hcn⟩ : ∃ cn, cn = cc.length := ⟨_, rfl⟩; rw [← hcn] at own2 ⊢; have hcl : cn ≤ 1000000 := (by rw [hcn, hcc]; unfold playChgs; rw [List.length_map, List.length_take]; omega); have P2 := Lib.hid (P1.out.below bel2); have LS2 := Lib.hid (Lst.ofOwn P1.out bel2 own2); clear own2 bel2 hcc hcn)
    | (go_at_call 27; (with_reducible refine (pr_see_w P2.out A2 cn n2 cc LS2.out HFX.out hcl).mono ?_); rintro e w3 ⟨rfl, p3, l3⟩; have P3 := Lib.hid p3; have LS3 := Lib.hid l3; clear p3 l3)
    | (go_at_call 71; (with_reducible refine (pr_see_r P3.out A2 cn n2 cc LS3.out HFX.out hcl).mono ?_); rintro e w4 ⟨rfl, S4, p4⟩; have P4 := Lib.hid p4; clear p4)
    | fail)
  go_ret
  exact ⟨rfl, S4, _, P4.out, HF.out.see _⟩
set_option maxHeartbeats 16000000 in
set_option maxRecDepth 100000 in
theorem do_see_raw (h : Pair w0 w S g gx x x) (hf : Fine x) (ok oi ot on om oa : Int) (A6 : Option Addr) (n6 c6 : Nat) (A7 : Option Addr) (n7 c7 : Nat) (rows : List Row) (chs : List Chg) (s6 : IsSl rowRep w0 (· < w0.heap.size) A6 n6 rows) (s7 : IsSl chgRep w0 (· < w0.heap.size) A7 n7 chs) (hm6 : n6 ≤ maxLen) (hc6 : n6 ≤ c6) (hraw : modOf on 13 = 12) (hk : ¬ modOf ok 12 < 7 ∧ modOf ok 12 < 9) :
    Calls Try.prog 36 #[.pointer (some ⟨g, 0, none⟩), .pointer (some ⟨gx, 0, none⟩), .agg #[.int .i64 ok, .int .i64 oi, .int .i64 ot, .int .i64 on, .int .i64 om, .int .i64 oa, .slice A6 n6 c6, .slice A7 n7 c7]] w (DoPost w0 g gx) := by
  unfold DoPost
  obtain ⟨mk, hmk⟩ : ∃ mk, mk = modOf om 3 := ⟨_, rfl⟩
  obtain ⟨rn, hrn⟩ : ∃ rn, rn = modOf on 13 := ⟨_, rfl⟩
  obtain ⟨kk, hkk⟩ : ∃ kk, kk = modOf ok 12 := ⟨_, rfl⟩
  have hmr := modOf_range om 3 (by omega)
  rw [← hmk] at hmr
  obtain ⟨hm0, hm1⟩ := hmr
  rw [← hrn] at hraw
  rw [← hkk] at hk
  have HMK := Lib.hid hmk
  have HRN := Lib.hid hrn
  have HKK := Lib.hid hkk
  obtain ⟨W1, hW1⟩ : ∃ W1, W1 = w.alloc (.cells #[.int .i64 ok, .int .i64 oi, .int .i64 ot, .int .i64 on, .int .i64 om, .int .i64 oa, .slice A6 n6 c6, .slice A7 n7 c7] 64) := ⟨_, rfl⟩
  have B1 := Lib.hid (show Below w.heap.size w W1 by rw [hW1]; exact (Below.refl _ _).alloc (Nat.le_refl _) _)
  have K1 := Lib.hid (show Blk W1 w.heap.size [.int .i64 ok, .int .i64 oi, .int .i64 ot, .int .i64 on, .int .i64 om, .int .i64 oa, .slice A6 n6 c6, .slice A7 n7 c7] by rw [hW1]; exact Blk.new rfl rfl)
  have HW1 := Lib.hid hW1
  obtain ⟨S1, hS1⟩ : ∃ S1, S1 = (fun k => S k ∨ (w.heap.size ≤ k ∧ k < W1.heap.size)) := ⟨_, rfl⟩
  have P1 := Lib.hid (show Pair w0 W1 S1 g gx x x by rw [hS1]; exact h.below B1.out)
  have HF := Lib.hid hf
  have S6 := Lib.hid s6
  have S7 := Lib.hid s7
  have drw : (rn == 12) = true := by simpa using hraw
  have drwd : decide (rn = 12) = true := by exact decide_eq_true hraw
  have q0 := K1.out.1 0 _ rfl
  have q1 := K1.out.1 1 _ rfl
  have q2 := K1.out.1 2 _ rfl
  have q3 := K1.out.1 3 _ rfl
  have q4 := K1.out.1 4 _ rfl
  have q5 := K1.out.1 5 _ rfl
  have q6 := K1.out.1 6 _ rfl
  have q7 := K1.out.1 7 _ rfl
  have hWs : w.heap.size < W1.heap.size := K1.out.lt
  clear hmk hrn hkk hW1 hS1 h hf s6 s7
  have dk2 : decide (kk < 2) = false := decide_eq_false (by omega)
  have dk4 : decide (kk < 4) = false := decide_eq_false (by omega)
  have ek4 : (kk == 4) = false := by simpa using (show ¬ kk = 4 by omega)
  have ek4d : decide (kk = 4) = false := decide_eq_false (by omega)
  have dk7 : decide (kk < 7) = false := decide_eq_false (by omega)
  have dk9 : decide (kk < 9) = true := decide_eq_true (by omega)
  have SL7 := Lib.hid (show IsSl chgRep W1 (· < W1.heap.size) A7 n7 chs from (S7.out.below P1.out.win.bel).more P1.out.win.bel.size)
  have HFX := Lib.hid (show x.rows.length ≤ 100000 from HF.out.1)
  clear hraw hk
  go_enter Try.func36, Try.ntmps36
  go_wp2_with (first
    | (go_at_call 19; (with_reducible refine (big_any om 3 _ (by omega) (by omega)).mono ?_); rintro e w' ⟨rfl, rfl⟩; rw [← HMK.out])
    | (go_at_call 15; (with_reducible refine (mod_any on 13 _ (by omega) (by omega)).mono ?_); rintro e w' ⟨rfl, rfl⟩; rw [← HRN.out])
    | (go_at_call 15; (with_reducible refine (mod_any ok 12 _ (by omega) (by omega)).mono ?_); rintro e w' ⟨rfl, rfl⟩; rw [← HKK.out])
    | (go_at_call 18; rw [← HW1.out]; (with_reducible refine (playChanges_any A7 n7 c7 chs 3 (by omega) (by omega) 6 6 rfl (by omega) W1 SL7.out).mono ?_); rintro e w2 ⟨v2, rfl, own2, bel2⟩; obtain ⟨cc, hcc⟩ : ∃ cc, cc = playChgs 3 6 chs := ⟨_, rfl⟩; rw [← hcc] at own2; obtain ⟨A2, n2, rfl⟩ := own2.form; obtain ⟨cn, hcn⟩ : ∃ cn, cn = cc.length := ⟨_, rfl⟩; rw [← hcn] at own2 ⊢; have hcl : cn ≤ 1000000 := (by rw [hcn, hcc]; unfold playChgs; rw [List.length_map, List.length_take]; omega); have P2 := Lib.hid (P1.out.below bel2); have LS2 := Lib.hid (Lst.ofOwn P1.out bel2 own2); clear own2 bel2 hcc hcn)
    | (go_at_call 27; (with_reducible refine (pr_see_w P2.out A2 cn n2 cc LS2.out HFX.out hcl).mono ?_); rintro e w3 ⟨rfl, p3, l3⟩; have P3 := Lib.hid p3; have LS3 := Lib.hid l3; clear p3 l3)
    | (go_at_call 71; (with_reducible refine (pr_see_r P3.out A2 cn n2 cc LS3.out HFX.out hcl).mono ?_); rintro e w4 ⟨rfl, S4, p4⟩; have P4 := Lib.hid p4; clear p4)
    | fail)
  go_ret
  exact ⟨rfl, S4, _, P4.out, HF.out.see _⟩
set_option maxHeartbeats 16000000 in
set_option maxRecDepth 100000 in
theorem do_waits_mod (h : Pair w0 w S g gx x x) (hf : Fine x) (ok oi ot on om oa : Int) (A6 : Option Addr) (n6 c6 : Nat) (A7 : Option Addr) (n7 c7 : Nat) (rows : List Row) (chs : List Chg) (s6 : IsSl rowRep w0 (· < w0.heap.size) A6 n6 rows) (s7 : IsSl chgRep w0 (· < w0.heap.size) A7 n7 chs) (hm6 : n6 ≤ maxLen) (hc6 : n6 ≤ c6) (hraw : modOf on 13 ≠ 12) (hk : ¬ modOf ok 12 < 11) :
    Calls Try.prog 36 #[.pointer (some ⟨g, 0, none⟩), .pointer (some ⟨gx, 0, none⟩), .agg #[.int .i64 ok, .int .i64 oi, .int .i64 ot, .int .i64 on, .int .i64 om, .int .i64 oa, .slice A6 n6 c6, .slice A7 n7 c7]] w (DoPost w0 g gx) := by
  unfold DoPost
  obtain ⟨mk, hmk⟩ : ∃ mk, mk = modOf om 3 := ⟨_, rfl⟩
  obtain ⟨rn, hrn⟩ : ∃ rn, rn = modOf on 13 := ⟨_, rfl⟩
  obtain ⟨kk, hkk⟩ : ∃ kk, kk = modOf ok 12 := ⟨_, rfl⟩
  have hmr := modOf_range om 3 (by omega)
  rw [← hmk] at hmr
  obtain ⟨hm0, hm1⟩ := hmr
  rw [← hrn] at hraw
  rw [← hkk] at hk
  have HMK := Lib.hid hmk
  have HRN := Lib.hid hrn
  have HKK := Lib.hid hkk
  obtain ⟨W1, hW1⟩ : ∃ W1, W1 = w.alloc (.cells #[.int .i64 ok, .int .i64 oi, .int .i64 ot, .int .i64 on, .int .i64 om, .int .i64 oa, .slice A6 n6 c6, .slice A7 n7 c7] 64) := ⟨_, rfl⟩
  have B1 := Lib.hid (show Below w.heap.size w W1 by rw [hW1]; exact (Below.refl _ _).alloc (Nat.le_refl _) _)
  have K1 := Lib.hid (show Blk W1 w.heap.size [.int .i64 ok, .int .i64 oi, .int .i64 ot, .int .i64 on, .int .i64 om, .int .i64 oa, .slice A6 n6 c6, .slice A7 n7 c7] by rw [hW1]; exact Blk.new rfl rfl)
  have HW1 := Lib.hid hW1
  obtain ⟨S1, hS1⟩ : ∃ S1, S1 = (fun k => S k ∨ (w.heap.size ≤ k ∧ k < W1.heap.size)) := ⟨_, rfl⟩
  have P1 := Lib.hid (show Pair w0 W1 S1 g gx x x by rw [hS1]; exact h.below B1.out)
  have HF := Lib.hid hf
  have S6 := Lib.hid s6
  have S7 := Lib.hid s7
  have drw : (rn == 12) = false := by simpa using hraw
  have drwd : decide (rn = 12) = false := by exact decide_eq_false hraw
  have q0 := K1.out.1 0 _ rfl
  have q1 := K1.out.1 1 _ rfl
  have q2 := K1.out.1 2 _ rfl
  have q3 := K1.out.1 3 _ rfl
  have q4 := K1.out.1 4 _ rfl
  have q5 := K1.out.1 5 _ rfl
  have q6 := K1.out.1 6 _ rfl
  have q7 := K1.out.1 7 _ rfl
  have hWs : w.heap.size < W1.heap.size := K1.out.lt
  clear hmk hrn hkk hW1 hS1 h hf s6 s7
  have dk2 : decide (kk < 2) = false := decide_eq_false (by omega)
  have dk4 : decide (kk < 4) = false := decide_eq_false (by omega)
  have ek4 : (kk == 4) = false := by simpa using (show ¬ kk = 4 by omega)
  have ek4d : decide (kk = 4) = false := decide_eq_false (by omega)
  have dk7 : decide (kk < 7) = false := decide_eq_false (by omega)
  have dk9 : decide (kk < 9) = false := decide_eq_false (by omega)
  have dk11 : decide (kk < 11) = false := decide_eq_false (by omega)
  have h3r := modOf_range on 3 (by omega)
  obtain ⟨n3, hn3⟩ : ∃ n3, n3 = modOf on 3 := ⟨_, rfl⟩
  rw [← hn3] at h3r
  obtain ⟨h30, h31⟩ := h3r
  have HN3 := Lib.hid hn3
  clear hn3
  clear hraw hk
  go_enter Try.func36, Try.ntmps36
  go_upto_region 32 with (first
    | (go_at_call 15; (with_reducible refine (mod_any on 3 _ (by omega) (by omega)).mono ?_); rintro e w' ⟨rfl, rfl⟩; rw [← HN3.out])
    | (go_at_call 19; (with_reducible refine (big_any om 3 _ (by omega) (by omega)).mono ?_); rintro e w' ⟨rfl, rfl⟩; rw [← HMK.out])
    | (go_at_call 15; (with_reducible refine (mod_any on 13 _ (by omega) (by omega)).mono ?_); rintro e w' ⟨rfl, rfl⟩; rw [← HRN.out])
    | (go_at_call 15; (with_reducible refine (mod_any ok 12 _ (by omega) (by omega)).mono ?_); rintro e w' ⟨rfl, rfl⟩; rw [← HKK.out])
    | fail)
  rw [← HW1.out]
  obtain ⟨b19, hb19⟩ : ∃ b19, b19 = W1.heap.size := ⟨_, rfl⟩
  have hb19w : b19 = w.heap.size + 1 := by rw [hb19, HW1.out]; simp
  obtain ⟨V, hV⟩ : ∃ V, V = W1.alloc (.cells #[.int .i64 1, .int .i64 (1 + n3), .slice none 0 0, .slice none 0 0, .int .i64 (1 + mk)] 68) := ⟨_, rfl⟩
  have BV := Lib.hid (show Below W1.heap.size W1 V by rw [hV]; exact (Below.refl _ _).alloc (Nat.le_refl _) _)
  have KV := Lib.hid (show Blk V b19 [.int .i64 1, .int .i64 (1 + n3), .slice none 0 0, .slice none 0 0, .int .i64 (1 + mk)] by rw [hV, hb19]; exact Blk.new rfl rfl)
  have PV := Lib.hid (show Pair w0 V.drew _ g gx x x from (P1.out.below BV.out).drewN 1)
  (try rw [← hb19w])
  (try rw [← hb19])
  rw [← hV]
  have v0 := KV.out.1 0 _ rfl
  have v1 := KV.out.1 1 _ rfl
  have v2 := KV.out.1 2 _ rfl
  have v3 := KV.out.1 3 _ rfl
  have v4 := KV.out.1 4 _ rfl
  clear hV hb19 hb19w
  go_region_held3 (fun w' => w'.cell? ⟨b19, 0, none⟩ = some (.int .i64 1) ∧ w'.cell? ⟨b19, 1, none⟩ = some (.int .i64 (1 + n3)) ∧ w'.cell? ⟨b19, 2, none⟩ = some (.slice none 0 0) ∧ w'.cell? ⟨b19, 3, none⟩ = some (.slice none 0 0) ∧ w'.cell? ⟨b19, 4, none⟩ = some (.int .i64 (1 + mk))) (first | exact ⟨v0, v1, v2, v3, v4⟩ | exact HK2.out | exact HK3.out | fail)
    (first
    | (go_at_call 34; (with_reducible refine (pr_waits_w PV.out 1 (1 + n3) (1 + mk)).mono ?_); rintro e w2 ⟨rfl, p2, r2, b2⟩; have P2 := Lib.hid p2; have KV2 := Lib.hid ((show Blk V.drew b19 _ from KV.out).after b2); have HK2 := Lib.hid (show w2.cell? ⟨b19, 0, none⟩ = some (.int .i64 1) ∧ w2.cell? ⟨b19, 1, none⟩ = some (.int .i64 (1 + n3)) ∧ w2.cell? ⟨b19, 2, none⟩ = some (.slice none 0 0) ∧ w2.cell? ⟨b19, 3, none⟩ = some (.slice none 0 0) ∧ w2.cell? ⟨b19, 4, none⟩ = some (.int .i64 (1 + mk)) from ⟨KV2.out.1 0 _ rfl, KV2.out.1 1 _ rfl, KV2.out.1 2 _ rfl, KV2.out.1 3 _ rfl, KV2.out.1 4 _ rfl⟩); clear p2 r2 b2)
    | (go_at_call 74; (with_reducible refine (pr_waits_r P2.out 1 (1 + n3) (1 + mk)).mono ?_); rintro e w3 ⟨rfl, ⟨S3, p3⟩, b3⟩; have P3 := Lib.hid p3; have KV3 := Lib.hid (KV2.out.after b3); have HK3 := Lib.hid (show w3.cell? ⟨b19, 0, none⟩ = some (.int .i64 1) ∧ w3.cell? ⟨b19, 1, none⟩ = some (.int .i64 (1 + n3)) ∧ w3.cell? ⟨b19, 2, none⟩ = some (.slice none 0 0) ∧ w3.cell? ⟨b19, 3, none⟩ = some (.slice none 0 0) ∧ w3.cell? ⟨b19, 4, none⟩ = some (.int .i64 (1 + mk)) from ⟨KV3.out.1 0 _ rfl, KV3.out.1 1 _ rfl, KV3.out.1 2 _ rfl, KV3.out.1 3 _ rfl, KV3.out.1 4 _ rfl⟩); clear p3 b3)
    | fail)
  go_wp2_with fail
  go_ret
  exact ⟨rfl, S3, x, P3.out, HF.out⟩
set_option maxHeartbeats 16000000 in
set_option maxRecDepth 100000 in
theorem do_waits_raw (h : Pair w0 w S g gx x x) (hf : Fine x) (ok oi ot on om oa : Int) (A6 : Option Addr) (n6 c6 : Nat) (A7 : Option Addr) (n7 c7 : Nat) (rows : List Row) (chs : List Chg) (s6 : IsSl rowRep w0 (· < w0.heap.size) A6 n6 rows) (s7 : IsSl chgRep w0 (· < w0.heap.size) A7 n7 chs) (hm6 : n6 ≤ maxLen) (hc6 : n6 ≤ c6) (hraw : modOf on 13 = 12) (hk : ¬ modOf ok 12 < 11) :
    Calls Try.prog 36 #[.pointer (some ⟨g, 0, none⟩), .pointer (some ⟨gx, 0, none⟩), .agg #[.int .i64 ok, .int .i64 oi, .int .i64 ot, .int .i64 on, .int .i64 om, .int .i64 oa, .slice A6 n6 c6, .slice A7 n7 c7]] w (DoPost w0 g gx) := by
  unfold DoPost
  obtain ⟨mk, hmk⟩ : ∃ mk, mk = modOf om 3 := ⟨_, rfl⟩
  obtain ⟨rn, hrn⟩ : ∃ rn, rn = modOf on 13 := ⟨_, rfl⟩
  obtain ⟨kk, hkk⟩ : ∃ kk, kk = modOf ok 12 := ⟨_, rfl⟩
  have hmr := modOf_range om 3 (by omega)
  rw [← hmk] at hmr
  obtain ⟨hm0, hm1⟩ := hmr
  rw [← hrn] at hraw
  rw [← hkk] at hk
  have HMK := Lib.hid hmk
  have HRN := Lib.hid hrn
  have HKK := Lib.hid hkk
  obtain ⟨W1, hW1⟩ : ∃ W1, W1 = w.alloc (.cells #[.int .i64 ok, .int .i64 oi, .int .i64 ot, .int .i64 on, .int .i64 om, .int .i64 oa, .slice A6 n6 c6, .slice A7 n7 c7] 64) := ⟨_, rfl⟩
  have B1 := Lib.hid (show Below w.heap.size w W1 by rw [hW1]; exact (Below.refl _ _).alloc (Nat.le_refl _) _)
  have K1 := Lib.hid (show Blk W1 w.heap.size [.int .i64 ok, .int .i64 oi, .int .i64 ot, .int .i64 on, .int .i64 om, .int .i64 oa, .slice A6 n6 c6, .slice A7 n7 c7] by rw [hW1]; exact Blk.new rfl rfl)
  have HW1 := Lib.hid hW1
  obtain ⟨S1, hS1⟩ : ∃ S1, S1 = (fun k => S k ∨ (w.heap.size ≤ k ∧ k < W1.heap.size)) := ⟨_, rfl⟩
  have P1 := Lib.hid (show Pair w0 W1 S1 g gx x x by rw [hS1]; exact h.below B1.out)
  have HF := Lib.hid hf
  have S6 := Lib.hid s6
  have S7 := Lib.hid s7
  have drw : (rn == 12) = true := by simpa using hraw
  have drwd : decide (rn = 12) = true := by exact decide_eq_true hraw
  have q0 := K1.out.1 0 _ rfl
  have q1 := K1.out.1 1 _ rfl
  have q2 := K1.out.1 2 _ rfl
  have q3 := K1.out.1 3 _ rfl
  have q4 := K1.out.1 4 _ rfl
  have q5 := K1.out.1 5 _ rfl
  have q6 := K1.out.1 6 _ rfl
  have q7 := K1.out.1 7 _ rfl
  have hWs : w.heap.size < W1.heap.size := K1.out.lt
  clear hmk hrn hkk hW1 hS1 h hf s6 s7
  have dk2 : decide (kk < 2) = false := decide_eq_false (by omega)
  have dk4 : decide (kk < 4) = false := decide_eq_false (by omega)
  have ek4 : (kk == 4) = false := by simpa using (show ¬ kk = 4 by omega)
  have ek4d : decide (kk = 4) = false := decide_eq_false (by omega)
  have dk7 : decide (kk < 7) = false := decide_eq_false (by omega)
  have dk9 : decide (kk < 9) = false := decide_eq_false (by omega)
  have dk11 : decide (kk < 11) = false := decide_eq_false (by omega)
  have h3r := modOf_range on 3 (by omega)
  obtain ⟨n3, hn3⟩ : ∃ n3, n3 = modOf on 3 := ⟨_, rfl⟩
  rw [← hn3] at h3r
  obtain ⟨h30, h31⟩ := h3r
  have HN3 := Lib.hid hn3
  clear hn3
  clear hraw hk
  go_enter Try.func36, Try.ntmps36
  go_upto_region 32 with (first
    | (go_at_call 15; (with_reducible refine (mod_any on 3 _ (by omega) (by omega)).mono ?_); rintro e w' ⟨rfl, rfl⟩; rw [← HN3.out])
    | (go_at_call 19; (with_reducible refine (big_any om 3 _ (by omega) (by omega)).mono ?_); rintro e w' ⟨rfl, rfl⟩; rw [← HMK.out])
    | (go_at_call 15; (with_reducible refine (mod_any on 13 _ (by omega) (by omega)).mono ?_); rintro e w' ⟨rfl, rfl⟩; rw [← HRN.out])
    | (go_at_call 15; (with_reducible refine (mod_any ok 12 _ (by omega) (by omega)).mono ?_); rintro e w' ⟨rfl, rfl⟩; rw [← HKK.out])
    | fail)
  rw [← HW1.out]
  obtain ⟨b19, hb19⟩ : ∃ b19, b19 = W1.heap.size := ⟨_, rfl⟩
  have hb19w : b19 = w.heap.size + 1 := by rw [hb19, HW1.out]; simp
  obtain ⟨V, hV⟩ : ∃ V, V = W1.alloc (.cells #[.int .i64 1, .int .i64 (1 + n3), .slice none 0 0, .slice none 0 0, .int .i64 om] 68) := ⟨_, rfl⟩
  have BV := Lib.hid (show Below W1.heap.size W1 V by rw [hV]; exact (Below.refl _ _).alloc (Nat.le_refl _) _)
  have KV := Lib.hid (show Blk V b19 [.int .i64 1, .int .i64 (1 + n3), .slice none 0 0, .slice none 0 0, .int .i64 om] by rw [hV, hb19]; exact Blk.new rfl rfl)
  have PV := Lib.hid (show Pair w0 V.drew _ g gx x x from (P1.out.below BV.out).drewN 1)
  (try rw [← hb19w])
  (try rw [← hb19])
  rw [← hV]
  have v0 := KV.out.1 0 _ rfl
  have v1 := KV.out.1 1 _ rfl
  have v2 := KV.out.1 2 _ rfl
  have v3 := KV.out.1 3 _ rfl
  have v4 := KV.out.1 4 _ rfl
  clear hV hb19 hb19w
  go_region_held3 (fun w' => w'.cell? ⟨b19, 0, none⟩ = some (.int .i64 1) ∧ w'.cell? ⟨b19, 1, none⟩ = some (.int .i64 (1 + n3)) ∧ w'.cell? ⟨b19, 2, none⟩ = some (.slice none 0 0) ∧ w'.cell? ⟨b19, 3, none⟩ = some (.slice none 0 0) ∧ w'.cell? ⟨b19, 4, none⟩ = some (.int .i64 om)) (first | exact ⟨v0, v1, v2, v3, v4⟩ | exact HK2.out | exact HK3.out | fail)
    (first
    | (go_at_call 34; (with_reducible refine (pr_waits_w PV.out 1 (1 + n3) om).mono ?_); rintro e w2 ⟨rfl, p2, r2, b2⟩; have P2 := Lib.hid p2; have KV2 := Lib.hid ((show Blk V.drew b19 _ from KV.out).after b2); have HK2 := Lib.hid (show w2.cell? ⟨b19, 0, none⟩ = some (.int .i64 1) ∧ w2.cell? ⟨b19, 1, none⟩ = some (.int .i64 (1 + n3)) ∧ w2.cell? ⟨b19, 2, none⟩ = some (.slice none 0 0) ∧ w2.cell? ⟨b19, 3, none⟩ = some (.slice none 0 0) ∧ w2.cell? ⟨b19, 4, none⟩ = some (.int .i64 om) from ⟨KV2.out.1 0 _ rfl, KV2.out.1 1 _ rfl, KV2.out.1 2 _ rfl, KV2.out.1 3 _ rfl, KV2.out.1 4 _ rfl⟩); clear p2 r2 b2)
    | (go_at_call 74; (with_reducible refine (pr_waits_r P2.out 1 (1 + n3) om).mono ?_); rintro e w3 ⟨rfl, ⟨S3, p3⟩, b3⟩; have P3 := Lib.hid p3; have KV3 := Lib.hid (KV2.out.after b3); have HK3 := Lib.hid (show w3.cell? ⟨b19, 0, none⟩ = some (.int .i64 1) ∧ w3.cell? ⟨b19, 1, none⟩ = some (.int .i64 (1 + n3)) ∧ w3.cell? ⟨b19, 2, none⟩ = some (.slice none 0 0) ∧ w3.cell? ⟨b19, 3, none⟩ = some (.slice none 0 0) ∧ w3.cell? ⟨b19, 4, none⟩ = some (.int .i64 om) from ⟨KV3.out.1 0 _ rfl, KV3.out.1 1 _ rfl, KV3.out.1 2 _ rfl, KV3.out.1 3 _ rfl, KV3.out.1 4 _ rfl⟩); clear p3 b3)
    | fail)
  go_wp2_with fail
  go_ret
  exact ⟨rfl, S3, x, P3.out, HF.out⟩
end
end Go.Proofs.Ytojjeogpggielaa

set_option linter.unusedVariables false
set_option linter.unusedSimpArgs false
namespace Go.Proofs.Ytojjeogpggielaa
open Go.RowKit

section
variable {w0 w w' : World} {S T : Nat → Prop} {g gx b : Nat} {x y : Win}
theorem IsSl.far {α : Type} {R : Rep α} {A : Option Addr} {n lo hi : Nat} {l : List α} (h : IsSl R w (fun k => lo ≤ k ∧ k < hi) A n l) (hh : hi ≤ w.heap.size) (gr : w.grownBy w' (some b)) (hb : b < lo ∨ hi ≤ b) : IsSl R w' (fun k => lo ≤ k ∧ k < hi) A n l :=
  h.keep fun p hp => World.cell?_of_block (gr.block _ (Nat.lt_of_lt_of_le hp.2 hh) (fun e => by injection e with e; omega))
theorem IsSl.aft {α : Type} {R : Rep α} {A : Option Addr} {n lo hi : Nat} {l : List α} (h : IsSl R w (fun k => lo ≤ k ∧ k < hi) A n l) (hh : hi ≤ w.heap.size) (hb : Below w.heap.size w w') : IsSl R w' (fun k => lo ≤ k ∧ k < hi) A n l :=
  h.keep fun p hp => hb.cell (Nat.lt_of_lt_of_le hp.2 hh)
theorem IsSl.whole {α : Type} {R : Rep α} {A : Option Addr} {n lo hi : Nat} {l : List α} (h : IsSl R w (fun k => lo ≤ k ∧ k < hi) A n l) (hh : hi ≤ w.heap.size) : IsSl R w (· < w.heap.size) A n l :=
  h.weak fun k hk => Nat.lt_of_lt_of_le hk.2 hh
theorem tell_len (x : Win) (m l : Int) (h : x.rows.length ≤ 100000) : (x.tell m l).ops.length ≤ 100000 ∧ (x.tell m l).notes.length ≤ 1 := by
  unfold Win.tell
  split
  · exact ⟨by rw [List.length_map]; exact h, Nat.le_refl _⟩
  · exact ⟨Nat.zero_le _, Nat.zero_le _⟩
set_option maxHeartbeats 16000000 in
set_option maxRecDepth 100000 in
theorem do_high_mod (h : Pair w0 w S g gx x x) (hf : Fine x) (ok oi ot on om oa : Int) (A6 : Option Addr) (n6 c6 : Nat) (A7 : Option Addr) (n7 c7 : Nat) (rows : List Row) (chs : List Chg) (s6 : IsSl rowRep w0 (· < w0.heap.size) A6 n6 rows) (s7 : IsSl chgRep w0 (· < w0.heap.size) A7 n7 chs) (hm6 : n6 ≤ maxLen) (hc6 : n6 ≤ c6) (hraw : modOf on 13 ≠ 12) (hk : ¬ modOf ok 12 < 9 ∧ modOf ok 12 < 11) :
    Calls Try.prog 36 #[.pointer (some ⟨g, 0, none⟩), .pointer (some ⟨gx, 0, none⟩), .agg #[.int .i64 ok, .int .i64 oi, .int .i64 ot, .int .i64 on, .int .i64 om, .int .i64 oa, .slice A6 n6 c6, .slice A7 n7 c7]] w (DoPost w0 g gx) := by
  unfold DoPost
  obtain ⟨mk, hmk⟩ : ∃ mk, mk = modOf om 3 := ⟨_, rfl⟩
  obtain ⟨rn, hrn⟩ : ∃ rn, rn = modOf on 13 := ⟨_, rfl⟩
  obtain ⟨kk, hkk⟩ : ∃ kk, kk = modOf ok 12 := ⟨_, rfl⟩
  have hmr := modOf_range om 3 (by omega)
  rw [← hmk] at hmr
  obtain ⟨hm0, hm1⟩ := hmr
  rw [← hrn] at hraw
  rw [← hkk] at hk
  have HMK := Lib.hid hmk
  have HRN := Lib.hid hrn
  have HKK := Lib.hid hkk
  obtain ⟨W1, hW1⟩ : ∃ W1, W1 = w.alloc (.cells #[.int .i64 ok, .int .i64 oi, .int .i64 ot, .int .i64 on, .int .i64 om, .int .i64 oa, .slice A6 n6 c6, .slice A7 n7 c7] 64) := ⟨_, rfl⟩
  have B1 := Lib.hid (show Below w.heap.size w W1 by rw [hW1]; exact (Below.refl _ _).alloc (Nat.le_refl _) _)
  have K1 := Lib.hid (show Blk W1 w.heap.size [.int .i64 ok, .int .i64 oi, .int .i64 ot, .int .i64 on, .int .i64 om, .int .i64 oa, .slice A6 n6 c6, .slice A7 n7 c7] by rw [hW1]; exact Blk.new rfl rfl)
  have HW1 := Lib.hid hW1
  obtain ⟨S1, hS1⟩ : ∃ S1, S1 = (fun k => S k ∨ (w.heap.size ≤ k ∧ k < W1.heap.size)) := ⟨_, rfl⟩
  have P1 := Lib.hid (show Pair w0 W1 S1 g gx x x by rw [hS1]; exact h.below B1.out)
  have hSn : S1 w.heap.size := by rw [hS1]; exact .inr ⟨Nat.le_refl _, K1.out.lt⟩
  have hgxn : ¬ w.heap.size = gx := fun e => by have := h.win.hS _ h.inS; omega
  have HF := Lib.hid hf
  have S6 := Lib.hid s6
  have S7 := Lib.hid s7
  have drw : (rn == 12) = false := by simpa using hraw
  have drwd : decide (rn = 12) = false := by exact decide_eq_false hraw
  have q0 := K1.out.1 0 _ rfl
  have q1 := K1.out.1 1 _ rfl
  have q2 := K1.out.1 2 _ rfl
  have q3 := K1.out.1 3 _ rfl
  have q4 := K1.out.1 4 _ rfl
  have q5 := K1.out.1 5 _ rfl
  have q6 := K1.out.1 6 _ rfl
  have q7 := K1.out.1 7 _ rfl
  have hWs : w.heap.size < W1.heap.size := K1.out.lt
  clear hmk hrn hkk hW1 hS1 h hf s6 s7
  have dk2 : decide (kk < 2) = false := decide_eq_false (by omega)
  have dk4 : decide (kk < 4) = false := decide_eq_false (by omega)
  have ek4 : (kk == 4) = false := by simpa using (show ¬ kk = 4 by omega)
  have ek4d : decide (kk = 4) = false := decide_eq_false (by omega)
  have dk7 : decide (kk < 7) = false := decide_eq_false (by omega)
  have dk9 : decide (kk < 9) = false := decide_eq_false (by omega)
  have dk11 : decide (kk < 11) = true := decide_eq_true (by omega)
  have h9r := modOf_range oa 99 (by omega)
  obtain ⟨a9, ha9⟩ : ∃ a9, a9 = modOf oa 99 := ⟨_, rfl⟩
  rw [← ha9] at h9r
  obtain ⟨h90, h91⟩ := h9r
  have HA9 := Lib.hid ha9
  clear ha9
  have WS1 := Lib.hid P1.out.win
  have HWIN := Lib.hid (show S1 w.heap.size from hSn)
  have HWG := Lib.hid (show ¬ w.heap.size = gx from hgxn)
  clear hSn hgxn
  have HF1 := Lib.hid HF.out.1
  have HF2 := Lib.hid HF.out.2.1
  have HF3 := Lib.hid HF.out.2.2.1
  have HF4 := Lib.hid HF.out.2.2.2.1
  obtain ⟨T, hr1, hTS⟩ := P1.out.ref
  have R1 := Lib.hid hr1
  have HT := Lib.hid hTS
  have hgx := P1.out.win.hS _ P1.out.inS
  have hbase := P1.out.base
  clear hr1 hTS
  clear hraw hk
  go_enter Try.func36, Try.ntmps36
  go_upto_region 25 with (first
    | (go_at_call 19; (with_reducible refine (big_any om 3 _ (by omega) (by omega)).mono ?_); rintro e w' ⟨rfl, rfl⟩; rw [← HMK.out])
    | (go_at_call 15; (with_reducible refine (mod_any on 13 _ (by omega) (by omega)).mono ?_); rintro e w' ⟨rfl, rfl⟩; rw [← HRN.out])
    | (go_at_call 15; (with_reducible refine (mod_any ok 12 _ (by omega) (by omega)).mono ?_); rintro e w' ⟨rfl, rfl⟩; rw [← HKK.out])
    | (go_at_call 28; rw [← HW1.out]; (with_reducible refine (ws_high WS1.out (1 + mk) oa HF1.out HF2.out HF3.out HF4.out).mono ?_); rintro e w2 ⟨A1, n1, d1, A2, n2, d2, rfl, s1, s2, ws, r⟩; have W2 := Lib.hid ws; have R2 := Lib.hid (R1.out.rest r HT.out P1.out.inS); have SA := Lib.hid s1; have SB := Lib.hid s2; have K12 := Lib.hid (show Blk w2 w.heap.size _ from K1.out.rest r (by exact HWIN.out)); have hs2 : W1.heap.size ≤ w2.heap.size := r.size; clear s1 s2 ws r)
    | fail)
  obtain ⟨it, hit⟩ : ∃ it, it = x.tell (1 + mk) oa := ⟨_, rfl⟩
  obtain ⟨ok1, hok1⟩ : ∃ ok1, ok1 = x.highOk (1 + mk) oa := ⟨_, rfl⟩
  have HIT := Lib.hid hit
  have HOK1 := Lib.hid hok1
  rw [← hit] at SA SB ⊢
  rw [← hok1]
  have HLN := Lib.hid (show it.ops.length ≤ 100000 ∧ it.notes.length ≤ 1 by rw [hit]; exact tell_len x _ _ HF.out.1)
  clear hit hok1
  obtain ⟨b15, hb15⟩ : ∃ b15, b15 = w2.heap.size := ⟨_, rfl⟩
  obtain ⟨V2, hV2⟩ : ∃ V2, V2 = w2.alloc (.cells #[.int .i64 it.lsn, .slice A1 n1 d1, .slice A2 n2 d2] 44) := ⟨_, rfl⟩
  have BV2 := Lib.hid (show Below w2.heap.size w2 V2 by rw [hV2]; exact (Below.refl _ _).alloc (Nat.le_refl _) _)
  have K15 := Lib.hid (show Blk V2 b15 [.int .i64 it.lsn, .slice A1 n1 d1, .slice A2 n2 d2] by rw [hV2, hb15]; exact Blk.new rfl rfl)
  have hsV2 : V2.heap.size = w2.heap.size + 1 := by rw [hV2]; simp
  rw [← hb15, ← hV2]
  obtain ⟨S2, hS2⟩ : ∃ S2, S2 = (fun k => S1 k ∨ (w2.heap.size ≤ k ∧ k < V2.heap.size)) := ⟨_, rfl⟩
  have W22 := Lib.hid (show WS w0 V2 S2 g (x.told (1 + mk) oa) by rw [hS2]; exact W2.out.step BV2.out)
  have HS12 := Lib.hid (show ∀ k, S1 k → S2 k by rw [hS2]; exact fun k hk => .inl hk)
  have HS2b := Lib.hid (show S2 b15 by rw [hS2]; exact .inr ⟨by omega, by omega⟩)
  have R22 := Lib.hid (R2.out.below BV2.out)
  have SA2 := Lib.hid (SA.out.aft (Nat.le_refl _) BV2.out)
  have SB2 := Lib.hid (SB.out.aft (Nat.le_refl _) BV2.out)
  have K1V := Lib.hid (K12.out.after BV2.out)
  have k5 := K1V.out.1 5 _ rfl
  have hb15a := Nat.le_of_eq hb15
  have hb15b := Nat.le_of_eq hb15.symm
  have hsV2a := Nat.le_of_eq hsV2
  have hsV2b := Nat.le_of_eq hsV2.symm
  clear hV2 hS2 hb15 hsV2 q0 q1 q2 q3 q4 q5 q6 q7
  go_upto_region 26 with (first
    | (go_at_call 72; (with_reducible refine (refhigh_any gx T x (1 + mk) oa V2 R22.out HF1.out HF2.out HF3.out HF4.out).mono ?_); rintro e w3 ⟨A3, n3, d3, A4, n4, d4, rfl, s1, s2, o, gr⟩; have R3 := Lib.hid o; have G3 := Lib.hid gr; have SC := Lib.hid s1; have SD := Lib.hid s2; have hs3 : V2.heap.size ≤ w3.heap.size := gr.size; clear s1 s2 o gr)
    | fail)
  rw [← HIT.out] at SC SD ⊢
  rw [← HOK1.out]
  have W3 := Lib.hid (W22.out.gby G3.out (HS12.out _ P1.out.inS) hbase)
  have SA3 := Lib.hid (SA2.out.far (by omega) G3.out (.inl hgx))
  have SB3 := Lib.hid (SB2.out.far (by omega) G3.out (.inl hgx))
  have K153 := Lib.hid (K15.out.grown G3.out (fun k hk => fun e => by injection hk with hk; omega))
  have K13 := Lib.hid (K1V.out.grown G3.out (fun k hk => fun e => by injection hk with hk; exact HWG.out (by omega)))
  obtain ⟨b17, hb17⟩ : ∃ b17, b17 = w3.heap.size := ⟨_, rfl⟩
  obtain ⟨V3, hV3⟩ : ∃ V3, V3 = w3.alloc (.cells #[.int .i64 it.lsn, .slice A3 n3 d3, .slice A4 n4 d4] 44) := ⟨_, rfl⟩
  have BV3 := Lib.hid (show Below w3.heap.size w3 V3 by rw [hV3]; exact (Below.refl _ _).alloc (Nat.le_refl _) _)
  have K17 := Lib.hid (show Blk V3 b17 [.int .i64 it.lsn, .slice A3 n3 d3, .slice A4 n4 d4] by rw [hV3, hb17]; exact Blk.new rfl rfl)
  have hsV3 : V3.heap.size = w3.heap.size + 1 := by rw [hV3]; simp
  rw [← hb17, ← hV3]
  obtain ⟨S3, hS3⟩ : ∃ S3, S3 = (fun k => S2 k ∨ (w3.heap.size ≤ k ∧ k < V3.heap.size)) := ⟨_, rfl⟩
  have W33 := Lib.hid (show WS w0 V3 S3 g (x.told (1 + mk) oa) by rw [hS3]; exact W3.out.step BV3.out)
  have HS13 := Lib.hid (show ∀ k, S1 k → S3 k by rw [hS3]; exact fun k hk => .inl (HS12.out k hk))
  have HS3a := Lib.hid (show S3 b15 by rw [hS3]; exact .inl HS2b.out)
  have HS3b := Lib.hid (show S3 b17 by rw [hS3]; exact .inr ⟨by omega, by omega⟩)
  have R33 := Lib.hid (R3.out.below BV3.out)
  have SA4 := Lib.hid ((SA3.out.aft (by omega) BV3.out).whole (by omega))
  have SB4 := Lib.hid ((SB3.out.aft (by omega) BV3.out).whole (by omega))
  have SC4 := Lib.hid ((SC.out.aft (Nat.le_refl _) BV3.out).whole (by omega))
  have SD4 := Lib.hid ((SD.out.aft (Nat.le_refl _) BV3.out).whole (by omega))
  have K154 := Lib.hid (K153.out.after BV3.out)
  have K14 := Lib.hid (K13.out.after BV3.out)
  have hn1 : n1 ≤ 281474976710656 := by have h1 := SA4.out.len; have h2 := HLN.out.1; omega
  have hn2 : n2 ≤ 281474976710656 := by have h1 := SB4.out.len; have h2 := HLN.out.2; omega
  obtain ⟨y0, y1, y2, yz⟩ := K154.out.c3
  obtain ⟨z0, z1, z2, zz⟩ := K17.out.c3
  have hb17a := Nat.le_of_eq hb17
  have hb17b := Nat.le_of_eq hb17.symm
  have hsV3a := Nat.le_of_eq hsV3
  have hsV3b := Nat.le_of_eq hsV3.symm
  clear hV3 hS3 hb17 hsV3 k5
  go_upto_region 28 with (first
    | (go_at_call 73; (with_reducible refine (item_any it.lsn A1 A2 A3 A4 n1 n2 d1 d2 n3 n4 d3 d4 it.ops it.notes V3 SA4.out SC4.out SB4.out SD4.out hn1 hn2).mono ?_); rintro e w4 ⟨rfl, bel⟩; have B4 := Lib.hid bel; clear bel)
    | fail)
  have hs4 := B4.out.size
  have W4 := Lib.hid (W33.out.below B4.out)
  have R4 := Lib.hid (R33.out.below B4.out)
  have K155 := Lib.hid (K154.out.after B4.out)
  have K175 := Lib.hid (K17.out.after B4.out)
  have K15b := Lib.hid (K14.out.after B4.out)
  have k5 := K15b.out.1 5 _ rfl
  have FT := Lib.hid (HF.out.told (1 + mk) oa)
  clear y0 y1 y2 yz z0 z1 z2 zz
  obtain ⟨x2, hx2⟩ : ∃ x2, x2 = x.told (1 + mk) oa := ⟨_, rfl⟩
  rw [← hx2] at W4 R4 FT
  clear hx2
  have FT1 := Lib.hid FT.out.1
  have FT2 := Lib.hid FT.out.2.1
  have FT3 := Lib.hid FT.out.2.2.1
  have FT4 := Lib.hid FT.out.2.2.2.1
  obtain ⟨jt, hjt⟩ : ∃ jt, jt = x2.tell (1 + mk) (1 + a9) := ⟨_, rfl⟩
  obtain ⟨ok2, hok2⟩ : ∃ ok2, ok2 = x2.highOk (1 + mk) (1 + a9) := ⟨_, rfl⟩
  have HJT := Lib.hid hjt
  have HOK2 := Lib.hid hok2
  have HLN2 := Lib.hid (show jt.ops.length ≤ 100000 ∧ jt.notes.length ≤ 1 by rw [hjt]; exact tell_len x2 _ _ FT.out.1)
  clear hjt hok2
  obtain ⟨y0, y1, y2, yz⟩ := K155.out.c3
  have HBS := Lib.hid (show b15 < w4.heap.size ∧ b17 < w4.heap.size ∧ W1.heap.size ≤ b15 ∧ W1.heap.size ≤ b17 ∧ b15 < b17 from ⟨by omega, by omega, by omega, by omega, by omega⟩)
  go_upto_region 29 with (first
    | (go_at_call 19; (with_reducible refine (big_any oa 99 _ (by omega) (by omega)).mono ?_); rintro e w' ⟨rfl, rfl⟩; rw [← HA9.out])
    | (go_at_call 28; (with_reducible refine (ws_high W4.out (1 + mk) (1 + a9) FT1.out FT2.out FT3.out FT4.out).mono ?_); rintro e w5 ⟨A5, n5, d5, A6', n6', d6', rfl, s1, s2, ws, r⟩; have W5 := Lib.hid ws; have R5 := Lib.hid (R4.out.rest r (fun k hk => HS13.out k (HT.out k hk)) (HS13.out _ P1.out.inS)); have SE := Lib.hid s1; have SF := Lib.hid s2; have K156 := Lib.hid (K155.out.rest r HS3a.out); have K176 := Lib.hid (K175.out.rest r HS3b.out); have K16 := Lib.hid (show Blk w5 w.heap.size _ from K15b.out.rest r (HS13.out _ HWIN.out)); have hs5 : w4.heap.size ≤ w5.heap.size := r.size; obtain ⟨y0, y1, y2, yz⟩ := K156.out.c3; clear s1 s2 ws r)
    | fail)
  rw [← HJT.out] at SE SF ⊢
  rw [← HOK2.out]
  obtain ⟨V5, hV5⟩ : ∃ V5, V5 = ((w5.setCell ⟨b15, 0, none⟩ (.int .i64 jt.lsn)).setCell ⟨b15, 1, none⟩ (.slice A5 n5 d5)).setCell ⟨b15, 2, none⟩ (.slice A6' n6' d6') := ⟨_, rfl⟩
  have G5 := Lib.hid (show w5.grownBy V5 (some b15) by rw [hV5]; exact gset (gset (gset (World.grownBy.refl w5 _) 0 _) 1 _) 2 _)
  have K157 := Lib.hid (show Blk V5 b15 [.int .i64 jt.lsn, .slice A5 n5 d5, .slice A6' n6' d6'] by rw [hV5]; exact (((K156.out.put (j := 0) (by simp) _ rfl).put (j := 1) (by simp) _ rfl).put (j := 2) (by simp) _ rfl))
  obtain ⟨hb1, hb2, hb3, hb4, hb5⟩ := HBS.out
  have hsz5 : w5.heap.size ≤ V5.heap.size := G5.out.size
  have HTW := Lib.hid (show ∀ k, T k → k < W1.heap.size from fun k hk => P1.out.win.hS k (HT.out k hk))
  have W52 := Lib.hid (W5.out.gby G5.out HS3a.out (by have := P1.out.win.bel.size; omega))
  have R52 := Lib.hid (R5.out.gby G5.out (fun hk => by have := HTW.out _ hk; omega) (by omega))
  have SE2 := Lib.hid (SE.out.far (Nat.le_refl _) G5.out (.inl hb1))
  have SF2 := Lib.hid (SF.out.far (Nat.le_refl _) G5.out (.inl hb1))
  have K177 := Lib.hid (K176.out.grown G5.out (fun k hk => fun e => by injection hk with hk; omega))
  have K17b := Lib.hid (K16.out.grown G5.out (fun k hk => fun e => by injection hk with hk; omega))
  rw [← hV5]
  have k5 := K17b.out.1 5 _ rfl
  clear hV5 y0 y1 y2 yz
  obtain ⟨z0, z1, z2, zz⟩ := K177.out.c3
  go_upto_region 30 with (first
    | (go_at_call 19; (with_reducible refine (big_any oa 99 _ (by omega) (by omega)).mono ?_); rintro e w' ⟨rfl, rfl⟩; rw [← HA9.out])
    | (go_at_call 72; (with_reducible refine (refhigh_any gx T x2 (1 + mk) (1 + a9) V5 R52.out FT1.out FT2.out FT3.out FT4.out).mono ?_); rintro e w6 ⟨A7', n7', d7', A8, n8, d8, rfl, s1, s2, o, gr⟩; have R6 := Lib.hid o; have G6 := Lib.hid gr; have SG := Lib.hid s1; have SH := Lib.hid s2; have hs6 : V5.heap.size ≤ w6.heap.size := gr.size; have K178 := Lib.hid (K177.out.grown gr (fun k hk => fun e => by injection hk with hk; omega)); obtain ⟨z0, z1, z2, zz⟩ := K178.out.c3; clear s1 s2 o gr)
    | fail)
  rw [← HJT.out] at SG SH ⊢
  rw [← HOK2.out]
  have W6 := Lib.hid (W52.out.gby G6.out (HS13.out _ P1.out.inS) hbase)
  have SE3 := Lib.hid (SE2.out.far (by omega) G6.out (.inl (by omega)))
  have SF3 := Lib.hid (SF2.out.far (by omega) G6.out (.inl (by omega)))
  have K158 := Lib.hid (K157.out.grown G6.out (fun k hk => fun e => by injection hk with hk; omega))
  obtain ⟨V6, hV6⟩ : ∃ V6, V6 = ((w6.setCell ⟨b17, 0, none⟩ (.int .i64 jt.lsn)).setCell ⟨b17, 1, none⟩ (.slice A7' n7' d7')).setCell ⟨b17, 2, none⟩ (.slice A8 n8 d8) := ⟨_, rfl⟩
  have G7 := Lib.hid (show w6.grownBy V6 (some b17) by rw [hV6]; exact gset (gset (gset (World.grownBy.refl w6 _) 0 _) 1 _) 2 _)
  have K179 := Lib.hid (show Blk V6 b17 [.int .i64 jt.lsn, .slice A7' n7' d7', .slice A8 n8 d8] by rw [hV6]; exact (((K178.out.put (j := 0) (by simp) _ rfl).put (j := 1) (by simp) _ rfl).put (j := 2) (by simp) _ rfl))
  have hsz6 : w6.heap.size ≤ V6.heap.size := G7.out.size
  have W7 := Lib.hid (W6.out.gby G7.out HS3b.out (by have := P1.out.win.bel.size; omega))
  have R7 := Lib.hid (R6.out.gby G7.out (fun hk => by have := HTW.out _ hk; omega) (by omega))
  have SE4 := Lib.hid ((SE3.out.far (by omega) G7.out (.inl hb2)).whole (by omega))
  have SF4 := Lib.hid ((SF3.out.far (by omega) G7.out (.inl hb2)).whole (by omega))
  have SG4 := Lib.hid ((SG.out.far (Nat.le_refl _) G7.out (.inl (by omega))).whole (by omega))
  have SH4 := Lib.hid ((SH.out.far (Nat.le_refl _) G7.out (.inl (by omega))).whole (by omega))
  have K159 := Lib.hid (K158.out.grown G7.out (fun k hk => fun e => by injection hk with hk; omega))
  have hn5 : n5 ≤ 281474976710656 := by have h1 := SE4.out.len; have h2 := HLN2.out.1; omega
  have hn6 : n6' ≤ 281474976710656 := by have h1 := SF4.out.len; have h2 := HLN2.out.2; omega
  rw [← hV6]
  clear hV6 z0 z1 z2 zz
  obtain ⟨y0, y1, y2, yz⟩ := K159.out.c3
  obtain ⟨z0, z1, z2, zz⟩ := K179.out.c3
  have HGX := Lib.hid (HS13.out _ P1.out.inS)
  cases ok2
  all_goals
    go_wp2_with (first
      | (go_at_call 73; (with_reducible refine (item_any jt.lsn A5 A6' A7' A8 n5 n6' d5 d6' n7' n8 d7' d8 jt.ops jt.notes V6 SE4.out SG4.out SF4.out SH4.out hn5 hn6).mono ?_); rintro e w8 ⟨rfl, bel⟩; have B8 := Lib.hid bel; clear bel)
      | fail)
    go_ret
    exact ⟨rfl, S3, _, ⟨W7.out.below B8.out, ⟨T, R7.out.below B8.out, fun k hk => HS13.out k (HT.out k hk)⟩, HGX.out, hbase⟩, FT.out.told _ _⟩
set_option maxHeartbeats 16000000 in
set_option maxRecDepth 100000 in
theorem do_high_raw (h : Pair w0 w S g gx x x) (hf : Fine x) (ok oi ot on om oa : Int) (A6 : Option Addr) (n6 c6 : Nat) (A7 : Option Addr) (n7 c7 : Nat) (rows : List Row) (chs : List Chg) (s6 : IsSl rowRep w0 (· < w0.heap.size) A6 n6 rows) (s7 : IsSl chgRep w0 (· < w0.heap.size) A7 n7 chs) (hm6 : n6 ≤ maxLen) (hc6 : n6 ≤ c6) (hraw : modOf on 13 = 12) (hk : ¬ modOf ok 12 < 9 ∧ modOf ok 12 < 11) :
    Calls Try.prog 36 #[.pointer (some ⟨g, 0, none⟩), .pointer (some ⟨gx, 0, none⟩), .agg #[.int .i64 ok, .int .i64 oi, .int .i64 ot, .int .i64 on, .int .i64 om, .int .i64 oa, .slice A6 n6 c6, .slice A7 n7 c7]] w (DoPost w0 g gx) := by
  unfold DoPost
  obtain ⟨mk, hmk⟩ : ∃ mk, mk = modOf om 3 := ⟨_, rfl⟩
  obtain ⟨rn, hrn⟩ : ∃ rn, rn = modOf on 13 := ⟨_, rfl⟩
  obtain ⟨kk, hkk⟩ : ∃ kk, kk = modOf ok 12 := ⟨_, rfl⟩
  have hmr := modOf_range om 3 (by omega)
  rw [← hmk] at hmr
  obtain ⟨hm0, hm1⟩ := hmr
  rw [← hrn] at hraw
  rw [← hkk] at hk
  have HMK := Lib.hid hmk
  have HRN := Lib.hid hrn
  have HKK := Lib.hid hkk
  obtain ⟨W1, hW1⟩ : ∃ W1, W1 = w.alloc (.cells #[.int .i64 ok, .int .i64 oi, .int .i64 ot, .int .i64 on, .int .i64 om, .int .i64 oa, .slice A6 n6 c6, .slice A7 n7 c7] 64) := ⟨_, rfl⟩
  have B1 := Lib.hid (show Below w.heap.size w W1 by rw [hW1]; exact (Below.refl _ _).alloc (Nat.le_refl _) _)
  have K1 := Lib.hid (show Blk W1 w.heap.size [.int .i64 ok, .int .i64 oi, .int .i64 ot, .int .i64 on, .int .i64 om, .int .i64 oa, .slice A6 n6 c6, .slice A7 n7 c7] by rw [hW1]; exact Blk.new rfl rfl)
  have HW1 := Lib.hid hW1
  obtain ⟨S1, hS1⟩ : ∃ S1, S1 = (fun k => S k ∨ (w.heap.size ≤ k ∧ k < W1.heap.size)) := ⟨_, rfl⟩
  have P1 := Lib.hid (show Pair w0 W1 S1 g gx x x by rw [hS1]; exact h.below B1.out)
  have hSn : S1 w.heap.size := by rw [hS1]; exact .inr ⟨Nat.le_refl _, K1.out.lt⟩
  have hgxn : ¬ w.heap.size = gx := fun e => by have := h.win.hS _ h.inS; omega
  have HF := Lib.hid hf
  have S6 := Lib.hid s6
  have S7 := Lib.hid s7
  have drw : (rn == 12) = true := by simpa using hraw
  have drwd : decide (rn = 12) = true := by exact decide_eq_true hraw
  have q0 := K1.out.1 0 _ rfl
  have q1 := K1.out.1 1 _ rfl
  have q2 := K1.out.1 2 _ rfl
  have q3 := K1.out.1 3 _ rfl
  have q4 := K1.out.1 4 _ rfl
  have q5 := K1.out.1 5 _ rfl
  have q6 := K1.out.1 6 _ rfl
  have q7 := K1.out.1 7 _ rfl
  have hWs : w.heap.size < W1.heap.size := K1.out.lt
  clear hmk hrn hkk hW1 hS1 h hf s6 s7
  have dk2 : decide (kk < 2) = false := decide_eq_false (by omega)
  have dk4 : decide (kk < 4) = false := decide_eq_false (by omega)
  have ek4 : (kk == 4) = false := by simpa using (show ¬ kk = 4 by omega)
  have ek4d : decide (kk = 4) = false := decide_eq_false (by omega)
  have dk7 : decide (kk < 7) = false := decide_eq_false (by omega)
  have dk9 : decide (kk < 9) = false := decide_eq_false (by omega)
  have dk11 : decide (kk < 11) = true := decide_eq_true (by omega)
  have h9r := modOf_range oa 99 (by omega)
  obtain ⟨a9, ha9⟩ : ∃ a9, a9 = modOf oa 99 := ⟨_, rfl⟩
  rw [← ha9] at h9r
  obtain ⟨h90, h91⟩ := h9r
  have HA9 := Lib.hid ha9
  clear ha9
  have WS1 := Lib.hid P1.out.win
  have HWIN := Lib.hid (show S1 w.heap.size from hSn)
  have HWG := Lib.hid (show ¬ w.heap.size = gx from hgxn)
  clear hSn hgxn
  have HF1 := Lib.hid HF.out.1
  have HF2 := Lib.hid HF.out.2.1
  have HF3 := Lib.hid HF.out.2.2.1
  have HF4 := Lib.hid HF.out.2.2.2.1
  obtain ⟨T, hr1, hTS⟩ := P1.out.ref
  have R1 := Lib.hid hr1
  have HT := Lib.hid hTS
  have hgx := P1.out.win.hS _ P1.out.inS
  have hbase := P1.out.base
  clear hr1 hTS
  clear hraw hk
  go_enter Try.func36, Try.ntmps36
  go_upto_region 25 with (first
    | (go_at_call 19; (with_reducible refine (big_any om 3 _ (by omega) (by omega)).mono ?_); rintro e w' ⟨rfl, rfl⟩; rw [← HMK.out])
    | (go_at_call 15; (with_reducible refine (mod_any on 13 _ (by omega) (by omega)).mono ?_); rintro e w' ⟨rfl, rfl⟩; rw [← HRN.out])
    | (go_at_call 15; (with_reducible refine (mod_any ok 12 _ (by omega) (by omega)).mono ?_); rintro e w' ⟨rfl, rfl⟩; rw [← HKK.out])
    | (go_at_call 28; rw [← HW1.out]; (with_reducible refine (ws_high WS1.out om oa HF1.out HF2.out HF3.out HF4.out).mono ?_); rintro e w2 ⟨A1, n1, d1, A2, n2, d2, rfl, s1, s2, ws, r⟩; have W2 := Lib.hid ws; have R2 := Lib.hid (R1.out.rest r HT.out P1.out.inS); have SA := Lib.hid s1; have SB := Lib.hid s2; have K12 := Lib.hid (show Blk w2 w.heap.size _ from K1.out.rest r (by exact HWIN.out)); have hs2 : W1.heap.size ≤ w2.heap.size := r.size; clear s1 s2 ws r)
    | fail)
  obtain ⟨it, hit⟩ : ∃ it, it = x.tell om oa := ⟨_, rfl⟩
  obtain ⟨ok1, hok1⟩ : ∃ ok1, ok1 = x.highOk om oa := ⟨_, rfl⟩
  have HIT := Lib.hid hit
  have HOK1 := Lib.hid hok1
  rw [← hit] at SA SB ⊢
  rw [← hok1]
  have HLN := Lib.hid (show it.ops.length ≤ 100000 ∧ it.notes.length ≤ 1 by rw [hit]; exact tell_len x _ _ HF.out.1)
  clear hit hok1
  obtain ⟨b15, hb15⟩ : ∃ b15, b15 = w2.heap.size := ⟨_, rfl⟩
  obtain ⟨V2, hV2⟩ : ∃ V2, V2 = w2.alloc (.cells #[.int .i64 it.lsn, .slice A1 n1 d1, .slice A2 n2 d2] 44) := ⟨_, rfl⟩
  have BV2 := Lib.hid (show Below w2.heap.size w2 V2 by rw [hV2]; exact (Below.refl _ _).alloc (Nat.le_refl _) _)
  have K15 := Lib.hid (show Blk V2 b15 [.int .i64 it.lsn, .slice A1 n1 d1, .slice A2 n2 d2] by rw [hV2, hb15]; exact Blk.new rfl rfl)
  have hsV2 : V2.heap.size = w2.heap.size + 1 := by rw [hV2]; simp
  rw [← hb15, ← hV2]
  obtain ⟨S2, hS2⟩ : ∃ S2, S2 = (fun k => S1 k ∨ (w2.heap.size ≤ k ∧ k < V2.heap.size)) := ⟨_, rfl⟩
  have W22 := Lib.hid (show WS w0 V2 S2 g (x.told om oa) by rw [hS2]; exact W2.out.step BV2.out)
  have HS12 := Lib.hid (show ∀ k, S1 k → S2 k by rw [hS2]; exact fun k hk => .inl hk)
  have HS2b := Lib.hid (show S2 b15 by rw [hS2]; exact .inr ⟨by omega, by omega⟩)
  have R22 := Lib.hid (R2.out.below BV2.out)
  have SA2 := Lib.hid (SA.out.aft (Nat.le_refl _) BV2.out)
  have SB2 := Lib.hid (SB.out.aft (Nat.le_refl _) BV2.out)
  have K1V := Lib.hid (K12.out.after BV2.out)
  have k5 := K1V.out.1 5 _ rfl
  have hb15a := Nat.le_of_eq hb15
  have hb15b := Nat.le_of_eq hb15.symm
  have hsV2a := Nat.le_of_eq hsV2
  have hsV2b := Nat.le_of_eq hsV2.symm
  clear hV2 hS2 hb15 hsV2 q0 q1 q2 q3 q4 q5 q6 q7
  go_upto_region 26 with (first
    | (go_at_call 72; (with_reducible refine (refhigh_any gx T x om oa V2 R22.out HF1.out HF2.out HF3.out HF4.out).mono ?_); rintro e w3 ⟨A3, n3, d3, A4, n4, d4, rfl, s1, s2, o, gr⟩; have R3 := Lib.hid o; have G3 := Lib.hid gr; have SC := Lib.hid s1; have SD := Lib.hid s2; have hs3 : V2.heap.size ≤ w3.heap.size := gr.size; clear s1 s2 o gr)
    | fail)
  rw [← HIT.out] at SC SD ⊢
  rw [← HOK1.out]
  have W3 := Lib.hid (W22.out.gby G3.out (HS12.out _ P1.out.inS) hbase)
  have SA3 := Lib.hid (SA2.out.far (by omega) G3.out (.inl hgx))
  have SB3 := Lib.hid (SB2.out.far (by omega) G3.out (.inl hgx))
  have K153 := Lib.hid (K15.out.grown G3.out (fun k hk => fun e => by injection hk with hk; omega))
  have K13 := Lib.hid (K1V.out.grown G3.out (fun k hk => fun e => by injection hk with hk; exact HWG.out (by omega)))
  obtain ⟨b17, hb17⟩ : ∃ b17, b17 = w3.heap.size := ⟨_, rfl⟩
  obtain ⟨V3, hV3⟩ : ∃ V3, V3 = w3.alloc (.cells #[.int .i64 it.lsn, .slice A3 n3 d3, .slice A4 n4 d4] 44) := ⟨_, rfl⟩
  have BV3 := Lib.hid (show Below w3.heap.size w3 V3 by rw [hV3]; exact (Below.refl _ _).alloc (Nat.le_refl _) _)
  have K17 := Lib.hid (show Blk V3 b17 [.int .i64 it.lsn, .slice A3 n3 d3, .slice A4 n4 d4] by rw [hV3, hb17]; exact Blk.new rfl rfl)
  have hsV3 : V3.heap.size = w3.heap.size + 1 := by rw [hV3]; simp
  rw [← hb17, ← hV3]
  obtain ⟨S3, hS3⟩ : ∃ S3, S3 = (fun k => S2 k ∨ (w3.heap.size ≤ k ∧ k < V3.heap.size)) := ⟨_, rfl⟩
  have W33 := Lib.hid (show WS w0 V3 S3 g (x.told om oa) by rw [hS3]; exact W3.out.step BV3.out)
  have HS13 := Lib.hid (show ∀ k, S1 k → S3 k by rw [hS3]; exact fun k hk => .inl (HS12.out k hk))
  have HS3a := Lib.hid (show S3 b15 by rw [hS3]; exact .inl HS2b.out)
  have HS3b := Lib.hid (show S3 b17 by rw [hS3]; exact .inr ⟨by omega, by omega⟩)
  have R33 := Lib.hid (R3.out.below BV3.out)
  have SA4 := Lib.hid ((SA3.out.aft (by omega) BV3.out).whole (by omega))
  have SB4 := Lib.hid ((SB3.out.aft (by omega) BV3.out).whole (by omega))
  have SC4 := Lib.hid ((SC.out.aft (Nat.le_refl _) BV3.out).whole (by omega))
  have SD4 := Lib.hid ((SD.out.aft (Nat.le_refl _) BV3.out).whole (by omega))
  have K154 := Lib.hid (K153.out.after BV3.out)
  have K14 := Lib.hid (K13.out.after BV3.out)
  have hn1 : n1 ≤ 281474976710656 := by have h1 := SA4.out.len; have h2 := HLN.out.1; omega
  have hn2 : n2 ≤ 281474976710656 := by have h1 := SB4.out.len; have h2 := HLN.out.2; omega
  obtain ⟨y0, y1, y2, yz⟩ := K154.out.c3
  obtain ⟨z0, z1, z2, zz⟩ := K17.out.c3
  have hb17a := Nat.le_of_eq hb17
  have hb17b := Nat.le_of_eq hb17.symm
  have hsV3a := Nat.le_of_eq hsV3
  have hsV3b := Nat.le_of_eq hsV3.symm
  clear hV3 hS3 hb17 hsV3 k5
  go_upto_region 28 with (first
    | (go_at_call 73; (with_reducible refine (item_any it.lsn A1 A2 A3 A4 n1 n2 d1 d2 n3 n4 d3 d4 it.ops it.notes V3 SA4.out SC4.out SB4.out SD4.out hn1 hn2).mono ?_); rintro e w4 ⟨rfl, bel⟩; have B4 := Lib.hid bel; clear bel)
    | fail)
  have hs4 := B4.out.size
  have W4 := Lib.hid (W33.out.below B4.out)
  have R4 := Lib.hid (R33.out.below B4.out)
  have K155 := Lib.hid (K154.out.after B4.out)
  have K175 := Lib.hid (K17.out.after B4.out)
  have K15b := Lib.hid (K14.out.after B4.out)
  have k5 := K15b.out.1 5 _ rfl
  have FT := Lib.hid (HF.out.told om oa)
  clear y0 y1 y2 yz z0 z1 z2 zz
  obtain ⟨x2, hx2⟩ : ∃ x2, x2 = x.told om oa := ⟨_, rfl⟩
  rw [← hx2] at W4 R4 FT
  clear hx2
  have FT1 := Lib.hid FT.out.1
  have FT2 := Lib.hid FT.out.2.1
  have FT3 := Lib.hid FT.out.2.2.1
  have FT4 := Lib.hid FT.out.2.2.2.1
  obtain ⟨jt, hjt⟩ : ∃ jt, jt = x2.tell om (1 + a9) := ⟨_, rfl⟩
  obtain ⟨ok2, hok2⟩ : ∃ ok2, ok2 = x2.highOk om (1 + a9) := ⟨_, rfl⟩
  have HJT := Lib.hid hjt
  have HOK2 := Lib.hid hok2
  have HLN2 := Lib.hid (show jt.ops.length ≤ 100000 ∧ jt.notes.length ≤ 1 by rw [hjt]; exact tell_len x2 _ _ FT.out.1)
  clear hjt hok2
  obtain ⟨y0, y1, y2, yz⟩ := K155.out.c3
  have HBS := Lib.hid (show b15 < w4.heap.size ∧ b17 < w4.heap.size ∧ W1.heap.size ≤ b15 ∧ W1.heap.size ≤ b17 ∧ b15 < b17 from ⟨by omega, by omega, by omega, by omega, by omega⟩)
  go_upto_region 29 with (first
    | (go_at_call 19; (with_reducible refine (big_any oa 99 _ (by omega) (by omega)).mono ?_); rintro e w' ⟨rfl, rfl⟩; rw [← HA9.out])
    | (go_at_call 28; (with_reducible refine (ws_high W4.out om (1 + a9) FT1.out FT2.out FT3.out FT4.out).mono ?_); rintro e w5 ⟨A5, n5, d5, A6', n6', d6', rfl, s1, s2, ws, r⟩; have W5 := Lib.hid ws; have R5 := Lib.hid (R4.out.rest r (fun k hk => HS13.out k (HT.out k hk)) (HS13.out _ P1.out.inS)); have SE := Lib.hid s1; have SF := Lib.hid s2; have K156 := Lib.hid (K155.out.rest r HS3a.out); have K176 := Lib.hid (K175.out.rest r HS3b.out); have K16 := Lib.hid (show Blk w5 w.heap.size _ from K15b.out.rest r (HS13.out _ HWIN.out)); have hs5 : w4.heap.size ≤ w5.heap.size := r.size; obtain ⟨y0, y1, y2, yz⟩ := K156.out.c3; clear s1 s2 ws r)
    | fail)
  rw [← HJT.out] at SE SF ⊢
  rw [← HOK2.out]
  obtain ⟨V5, hV5⟩ : ∃ V5, V5 = ((w5.setCell ⟨b15, 0, none⟩ (.int .i64 jt.lsn)).setCell ⟨b15, 1, none⟩ (.slice A5 n5 d5)).setCell ⟨b15, 2, none⟩ (.slice A6' n6' d6') := ⟨_, rfl⟩
  have G5 := Lib.hid (show w5.grownBy V5 (some b15) by rw [hV5]; exact gset (gset (gset (World.grownBy.refl w5 _) 0 _) 1 _) 2 _)
  have K157 := Lib.hid (show Blk V5 b15 [.int .i64 jt.lsn, .slice A5 n5 d5, .slice A6' n6' d6'] by rw [hV5]; exact (((K156.out.put (j := 0) (by simp) _ rfl).put (j := 1) (by simp) _ rfl).put (j := 2) (by simp) _ rfl))
  obtain ⟨hb1, hb2, hb3, hb4, hb5⟩ := HBS.out
  have hsz5 : w5.heap.size ≤ V5.heap.size := G5.out.size
  have HTW := Lib.hid (show ∀ k, T k → k < W1.heap.size from fun k hk => P1.out.win.hS k (HT.out k hk))
  have W52 := Lib.hid (W5.out.gby G5.out HS3a.out (by have := P1.out.win.bel.size; omega))
  have R52 := Lib.hid (R5.out.gby G5.out (fun hk => by have := HTW.out _ hk; omega) (by omega))
  have SE2 := Lib.hid (SE.out.far (Nat.le_refl _) G5.out (.inl hb1))
  have SF2 := Lib.hid (SF.out.far (Nat.le_refl _) G5.out (.inl hb1))
  have K177 := Lib.hid (K176.out.grown G5.out (fun k hk => fun e => by injection hk with hk; omega))
  have K17b := Lib.hid (K16.out.grown G5.out (fun k hk => fun e => by injection hk with hk; omega))
  rw [← hV5]
  have k5 := K17b.out.1 5 _ rfl
  clear hV5 y0 y1 y2 yz
  obtain ⟨z0, z1, z2, zz⟩ := K177.out.c3
  go_upto_region 30 with (first
    | (go_at_call 19; (with_reducible refine (big_any oa 99 _ (by omega) (by omega)).mono ?_); rintro e w' ⟨rfl, rfl⟩; rw [← HA9.out])
    | (go_at_call 72; (with_reducible refine (refhigh_any gx T x2 om (1 + a9) V5 R52.out FT1.out FT2.out FT3.out FT4.out).mono ?_); rintro e w6 ⟨A7', n7', d7', A8, n8, d8, rfl, s1, s2, o, gr⟩; have R6 := Lib.hid o; have G6 := Lib.hid gr; have SG := Lib.hid s1; have SH := Lib.hid s2; have hs6 : V5.heap.size ≤ w6.heap.size := gr.size; have K178 := Lib.hid (K177.out.grown gr (fun k hk => fun e => by injection hk with hk; omega)); obtain ⟨z0, z1, z2, zz⟩ := K178.out.c3; clear s1 s2 o gr)
    | fail)
  rw [← HJT.out] at SG SH ⊢
  rw [← HOK2.out]
  have W6 := Lib.hid (W52.out.gby G6.out (HS13.out _ P1.out.inS) hbase)
  have SE3 := Lib.hid (SE2.out.far (by omega) G6.out (.inl (by omega)))
  have SF3 := Lib.hid (SF2.out.far (by omega) G6.out (.inl (by omega)))
  have K158 := Lib.hid (K157.out.grown G6.out (fun k hk => fun e => by injection hk with hk; omega))
  obtain ⟨V6, hV6⟩ : ∃ V6, V6 = ((w6.setCell ⟨b17, 0, none⟩ (.int .i64 jt.lsn)).setCell ⟨b17, 1, none⟩ (.slice A7' n7' d7')).setCell ⟨b17, 2, none⟩ (.slice A8 n8 d8) := ⟨_, rfl⟩
  have G7 := Lib.hid (show w6.grownBy V6 (some b17) by rw [hV6]; exact gset (gset (gset (World.grownBy.refl w6 _) 0 _) 1 _) 2 _)
  have K179 := Lib.hid (show Blk V6 b17 [.int .i64 jt.lsn, .slice A7' n7' d7', .slice A8 n8 d8] by rw [hV6]; exact (((K178.out.put (j := 0) (by simp) _ rfl).put (j := 1) (by simp) _ rfl).put (j := 2) (by simp) _ rfl))
  have hsz6 : w6.heap.size ≤ V6.heap.size := G7.out.size
  have W7 := Lib.hid (W6.out.gby G7.out HS3b.out (by have := P1.out.win.bel.size; omega))
  have R7 := Lib.hid (R6.out.gby G7.out (fun hk => by have := HTW.out _ hk; omega) (by omega))
  have SE4 := Lib.hid ((SE3.out.far (by omega) G7.out (.inl hb2)).whole (by omega))
  have SF4 := Lib.hid ((SF3.out.far (by omega) G7.out (.inl hb2)).whole (by omega))
  have SG4 := Lib.hid ((SG.out.far (Nat.le_refl _) G7.out (.inl (by omega))).whole (by omega))
  have SH4 := Lib.hid ((SH.out.far (Nat.le_refl _) G7.out (.inl (by omega))).whole (by omega))
  have K159 := Lib.hid (K158.out.grown G7.out (fun k hk => fun e => by injection hk with hk; omega))
  have hn5 : n5 ≤ 281474976710656 := by have h1 := SE4.out.len; have h2 := HLN2.out.1; omega
  have hn6 : n6' ≤ 281474976710656 := by have h1 := SF4.out.len; have h2 := HLN2.out.2; omega
  rw [← hV6]
  clear hV6 z0 z1 z2 zz
  obtain ⟨y0, y1, y2, yz⟩ := K159.out.c3
  obtain ⟨z0, z1, z2, zz⟩ := K179.out.c3
  have HGX := Lib.hid (HS13.out _ P1.out.inS)
  cases ok2
  all_goals
    go_wp2_with (first
      | (go_at_call 73; (with_reducible refine (item_any jt.lsn A5 A6' A7' A8 n5 n6' d5 d6' n7' n8 d7' d8 jt.ops jt.notes V6 SE4.out SG4.out SF4.out SH4.out hn5 hn6).mono ?_); rintro e w8 ⟨rfl, bel⟩; have B8 := Lib.hid bel; clear bel)
      | fail)
    go_ret
    exact ⟨rfl, S3, _, ⟨W7.out.below B8.out, ⟨T, R7.out.below B8.out, fun k hk => HS13.out k (HT.out k hk)⟩, HGX.out, hbase⟩, FT.out.told _ _⟩
end
end Go.Proofs.Ytojjeogpggielaa

set_option linter.unusedVariables false
set_option linter.unusedSimpArgs false
namespace Go.Proofs.Ytojjeogpggielaa
open Go.RowKit

section
variable {w0 w : World} {S : Nat → Prop} {g gx : Nat} {x : Win}
theorem do_any (h : Pair w0 w S g gx x x) (hf : Fine x) (ok oi ot on om oa : Int) (A6 : Option Addr) (n6 c6 : Nat) (A7 : Option Addr) (n7 c7 : Nat) (rows : List Row) (chs : List Chg) (s6 : IsSl rowRep w0 (· < w0.heap.size) A6 n6 rows) (s7 : IsSl chgRep w0 (· < w0.heap.size) A7 n7 chs) (hm6 : n6 ≤ maxLen) (hc6 : n6 ≤ c6) (hoa : I64 oa) :
    Calls Try.prog 36 #[.pointer (some ⟨g, 0, none⟩), .pointer (some ⟨gx, 0, none⟩), .agg #[.int .i64 ok, .int .i64 oi, .int .i64 ot, .int .i64 on, .int .i64 om, .int .i64 oa, .slice A6 n6 c6, .slice A7 n7 c7]] w (DoPost w0 g gx) := by
  by_cases hr : modOf on 13 = 12
  · have hk : modOf ok 12 < 2 ∨ (¬ modOf ok 12 < 2 ∧ modOf ok 12 < 4) ∨ modOf ok 12 = 4 ∨ (¬ modOf ok 12 < 4 ∧ ¬ modOf ok 12 = 4 ∧ modOf ok 12 < 7) ∨ (¬ modOf ok 12 < 7 ∧ modOf ok 12 < 9) ∨ (¬ modOf ok 12 < 9 ∧ modOf ok 12 < 11) ∨ ¬ modOf ok 12 < 11 := by omega
    rcases hk with hk | hk | hk | hk | hk | hk | hk
    · exact do_open_raw h hf ok oi ot on om oa A6 n6 c6 A7 n7 c7 rows chs s6 s7 hm6 hc6 hr hk
    · by_cases hp : n6 ≤ 80
      · exact do_fill_raw1 h hf ok oi ot on om oa A6 n6 c6 A7 n7 c7 rows chs s6 s7 hm6 hc6 hp hr hk
      · exact do_fill_raw2 h hf ok oi ot on om oa A6 n6 c6 A7 n7 c7 rows chs s6 s7 hm6 hc6 hp hr hk
    · exact do_shut_raw h hf ok oi ot on om oa A6 n6 c6 A7 n7 c7 rows chs s6 s7 hm6 hc6 hr hk
    · exact do_low_raw h hf ok oi ot on om oa A6 n6 c6 A7 n7 c7 rows chs s6 s7 hm6 hc6 hr hk
    · exact do_see_raw h hf ok oi ot on om oa A6 n6 c6 A7 n7 c7 rows chs s6 s7 hm6 hc6 hr hk
    · exact do_high_raw h hf ok oi ot on om oa A6 n6 c6 A7 n7 c7 rows chs s6 s7 hm6 hc6 hr hk
    · exact do_waits_raw h hf ok oi ot on om oa A6 n6 c6 A7 n7 c7 rows chs s6 s7 hm6 hc6 hr hk
  · have hk : modOf ok 12 < 2 ∨ (¬ modOf ok 12 < 2 ∧ modOf ok 12 < 4) ∨ modOf ok 12 = 4 ∨ (¬ modOf ok 12 < 4 ∧ ¬ modOf ok 12 = 4 ∧ modOf ok 12 < 7) ∨ (¬ modOf ok 12 < 7 ∧ modOf ok 12 < 9) ∨ (¬ modOf ok 12 < 9 ∧ modOf ok 12 < 11) ∨ ¬ modOf ok 12 < 11 := by omega
    rcases hk with hk | hk | hk | hk | hk | hk | hk
    · exact do_open_mod h hf ok oi ot on om oa A6 n6 c6 A7 n7 c7 rows chs s6 s7 hm6 hc6 hr hk
    · exact do_fill_mod h hf ok oi ot on om oa A6 n6 c6 A7 n7 c7 rows chs s6 s7 hm6 hc6 hr hk
    · exact do_shut_mod h hf ok oi ot on om oa A6 n6 c6 A7 n7 c7 rows chs s6 s7 hm6 hc6 hr hk
    · exact do_low_mod h hf ok oi ot on om oa A6 n6 c6 A7 n7 c7 rows chs s6 s7 hm6 hc6 hr hk
    · exact do_see_mod h hf ok oi ot on om oa A6 n6 c6 A7 n7 c7 rows chs s6 s7 hm6 hc6 hr hk
    · exact do_high_mod h hf ok oi ot on om oa A6 n6 c6 A7 n7 c7 rows chs s6 s7 hm6 hc6 hr hk
    · exact do_waits_mod h hf ok oi ot on om oa A6 n6 c6 A7 n7 c7 rows chs s6 s7 hm6 hc6 hr hk
end

set_option maxHeartbeats 16000000 in
set_option maxRecDepth 100000 in
theorem windowPlays_walk (w : World) (n : Int) (hn : I64 n) (A : Option Addr) (nA cA : Nat) (l : List Op26) (h : IsSl op26Rep w (· < w.heap.size) A nA l) (hcA : nA ≤ cA) (hmA : cA ≤ maxLen) :
    Calls Try.prog 6 #[.int .i64 n, .slice A nA cA] w fun e w' => e = .returned (.bool true) ∧ Below w.heap.size w w' := by
  have H := Lib.hid h
  obtain ⟨m0, hm0⟩ : ∃ m0, m0 = modOf n 5 := ⟨_, rfl⟩
  have hrm := modOf_range n 5 (by omega)
  rw [← hm0] at hrm
  obtain ⟨hm00, hm01⟩ := hrm
  have HM0 := Lib.hid hm0
  obtain ⟨k, hk⟩ := Int.eq_ofNat_of_zero_le (show 0 ≤ 1 + m0 by omega)
  have HK := Lib.hid (show (1 : Int) + m0 = (k : Int) from hk)
  have HK1 := Lib.hid (show (1 : Int) ≤ (k : Int) ∧ (k : Int) ≤ 64 by omega)
  obtain ⟨g, hg⟩ : ∃ g, g = w.heap.size := ⟨_, rfl⟩
  have HG := Lib.hid hg
  clear hm0 hk hg hn h
  go_enter Try.func6, Try.ntmps6
  go_upto_region 4 with (first
    | (go_at_call 15; (with_reducible refine (mod_any n 5 _ (by omega) (by omega)).mono ?_); rintro e w' ⟨rfl, rfl⟩; rw [← HM0.out])
    | (go_at_call 16; (rw [HK.out]); (with_reducible refine (ws_new (k : Int) w HK1.out.1 HK1.out.2).mono ?_); rintro e w1 ⟨rfl, ws1⟩; rw [← HG.out] at ws1 ⊢; have W1 := Lib.hid ws1; clear ws1)
    | fail)
  (try rw [HK.out])
  obtain ⟨gx, hgx⟩ : ∃ gx, gx = w1.heap.size := ⟨_, rfl⟩
  obtain ⟨V, hV⟩ : ∃ V, V = w1.alloc (.cells #[.int .i64 k, .int .i64 0, .int .i64 0, .int .i64 0, .int .i64 0, .int .i64 0, .int .i64 0, .bool false, .slice none 0 0] 73) := ⟨_, rfl⟩
  have PV := Lib.hid (show Pair w V (fun i => i < g ∨ (w1.heap.size ≤ i ∧ i < V.heap.size)) g gx (win0 (k : Int)) (win0 (k : Int)) by
    have b : Below w1.heap.size w1 V := by rw [hV]; exact (Below.refl _ _).alloc (Nat.le_refl _) _
    have hs : V.heap.size = w1.heap.size + 1 := by rw [hV]; simp
    refine ⟨W1.out.step b, ⟨fun _ => False, ?_, fun _ h => h.elim⟩, .inr ⟨by omega, by omega⟩, by have := W1.out.bel.size; omega⟩
    rw [hV, hgx]
    exact refnew (k : Int) _ (fun _ h => h.elim))
  rw [← hgx, ← hV]
  clear hgx hV
  go_wp2_with fail
  go_loopw [9] (fun i wr => ∃ p : Nat, i = .int .i64 p ∧ p ≤ nA ∧ p ≤ 80 ∧ ∃ S x, Pair w wr S g gx x x ∧ Fine x) (fun i _ => 80 - (intOf i).toNat)
  case atStart => exact ⟨0, rfl, Nat.zero_le _, Nat.zero_le _, _, _, PV.out, fine0 _ HK1.out.2⟩
  case round =>
    obtain ⟨p, rfl, hp, hp80, S, x, hpair, hfine⟩ := hrel
    have P := Lib.hid hpair
    have F := Lib.hid hfine
    clear hpair hfine
    by_cases hlt : p < nA
    · have hd : decide ((p : Int) < (nA : Int)) = true := decide_eq_true (by omega)
      by_cases hlt2 : p < 80
      · have hd2 : decide ((p : Int) < 80) = true := decide_eq_true (by omega)
        have hpn : (p : Int) < (nA : Int) := by omega
        have hp0 : (0 : Int) ≤ (p : Int) := by omega
        obtain ⟨b0, off, o, cs, rfl, hb0, ho, ⟨c6, c7, rfl, wk, wi, wt, wn, wm, wa, ⟨A6, n6, cc6, hc6, sl6, hn6, hm6⟩, ⟨A7, n7, cc7, hc7, sl7, hn7, hm7⟩⟩, hcs⟩ := H.out.at_ hlt
        (obtain rfl : c6 = .slice A6 n6 cc6 := by simpa using hc6)
        (obtain rfl : c7 = .slice A7 n7 cc7 := by simpa using hc7)
        have q0 : wr.cell? ⟨b0, off + p * 8, none⟩ = some (.int .i64 o.kind) := (P.out.win.bel.cell (p := ⟨b0, off + p * 8, none⟩) hb0).trans (hcs 0 _ rfl)
        have q1 : wr.cell? ⟨b0, off + p * 8 + 1, none⟩ = some (.int .i64 o.id) := (P.out.win.bel.cell (p := ⟨b0, off + p * 8 + 1, none⟩) hb0).trans (hcs 1 _ rfl)
        have q2 : wr.cell? ⟨b0, off + p * 8 + 2, none⟩ = some (.int .i64 o.table) := (P.out.win.bel.cell (p := ⟨b0, off + p * 8 + 2, none⟩) hb0).trans (hcs 2 _ rfl)
        have q3 : wr.cell? ⟨b0, off + p * 8 + 3, none⟩ = some (.int .i64 o.n) := (P.out.win.bel.cell (p := ⟨b0, off + p * 8 + 3, none⟩) hb0).trans (hcs 3 _ rfl)
        have q4 : wr.cell? ⟨b0, off + p * 8 + 4, none⟩ = some (.int .i64 o.mark) := (P.out.win.bel.cell (p := ⟨b0, off + p * 8 + 4, none⟩) hb0).trans (hcs 4 _ rfl)
        have q5 : wr.cell? ⟨b0, off + p * 8 + 5, none⟩ = some (.int .i64 o.after) := (P.out.win.bel.cell (p := ⟨b0, off + p * 8 + 5, none⟩) hb0).trans (hcs 5 _ rfl)
        have q6 : wr.cell? ⟨b0, off + p * 8 + 6, none⟩ = some (.slice A6 n6 cc6) := (P.out.win.bel.cell (p := ⟨b0, off + p * 8 + 6, none⟩) hb0).trans (hcs 6 _ rfl)
        have q7 : wr.cell? ⟨b0, off + p * 8 + 7, none⟩ = some (.slice A7 n7 cc7) := (P.out.win.bel.cell (p := ⟨b0, off + p * 8 + 7, none⟩) hb0).trans (hcs 7 _ rfl)
        have SL6 := Lib.hid sl6
        have SL7 := Lib.hid sl7
        have HM6 := Lib.hid (show n6 ≤ maxLen ∧ n6 ≤ cc6 from ⟨Nat.le_trans hn6 hm6, hn6⟩)
        have HWA := Lib.hid wa
        obtain ⟨ok, oi, ot, on, om, oa, orr, oc⟩ := o
        dsimp only at q0 q1 q2 q3 q4 q5 q6 q7 SL6 SL7 HWA
        clear hcs hc6 hc7 sl6 sl7 ho wk wi wt wn wm wa hn6 hm6 hn7 hm7
        go_wp2_with (first
          | (go_at_call 36; (with_reducible refine (do_any P.out F.out ok oi ot on om oa A6 n6 cc6 A7 n7 cc7 orr oc SL6.out SL7.out HM6.out.1 HM6.out.2 HWA.out).mono ?_); rintro e w2 ⟨rfl, S2, x2, p2, f2⟩; have P2 := Lib.hid p2; have F2 := Lib.hid f2; have F21 := Lib.hid f2.1; clear p2 f2)
          | (go_at_call 37; (with_reducible refine (alike_any P2.out F21.out).mono ?_); rintro e w3 ⟨rfl, S3, p3⟩; have P3 := Lib.hid p3; clear p3)
          | fail)
        go_roundw
        case rel => exact ⟨p + 1, by go_num, by omega, by omega, S3, x2, P3.out, F2.out⟩
        case measure => simp [intOf]; omega
      · have hd2 : decide ((p : Int) < 80) = false := decide_eq_false (by omega)
        go_wp2_with (first
          | (go_at_call 30; (with_reducible refine (awake26_any _).mono ?_); rintro e w2 ⟨rfl, bel2⟩; have BE := Lib.hid (P.out.win.bel.trans (bel2.mono P.out.win.bel.size)); clear bel2)
          | fail)
        go_ret
        exact ⟨rfl, BE.out⟩
    · have hd : decide ((p : Int) < (nA : Int)) = false := decide_eq_false (by omega)
      go_wp2_with (first
        | (go_at_call 30; (with_reducible refine (awake26_any _).mono ?_); rintro e w2 ⟨rfl, bel2⟩; have BE := Lib.hid (P.out.win.bel.trans (bel2.mono P.out.win.bel.size)); clear bel2)
        | fail)
      go_ret
      exact ⟨rfl, BE.out⟩
end Go.Proofs.Ytojjeogpggielaa
