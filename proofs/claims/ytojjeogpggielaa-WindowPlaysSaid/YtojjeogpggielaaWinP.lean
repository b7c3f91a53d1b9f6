/- Contracts of a window and the reference's beside each other: each call of both; the law's alike. -/
import Derived.Test.YtojjeogpggielaaRefWB
set_option linter.unusedVariables false
set_option linter.unusedSimpArgs false
namespace Go.Proofs.Ytojjeogpggielaa
open Go.RowKit

/-- A list that both may read: it lies in L, apart from the windows. -/
structure Lst {α : Type} (R : Rep α) (w : World) (S : Nat → Prop) (gx : Nat) (A : Option Addr) (n : Nat) (l : List α) : Prop where
  lies : ∃ L : Nat → Prop, IsSl R w L A n l ∧ (∀ k, L k → S k) ∧ ¬ L gx

section
variable {w0 w w' : World} {S S' : Nat → Prop} {g gx : Nat} {x x' y y' : Win}

theorem Lst.winStep {α : Type} {R : Rep α} {A : Option Addr} {n : Nat} {l : List α} (h : Lst R w S gx A n l) (r : Rest S w w') : Lst R w' S gx A n l := by
  obtain ⟨L, s, hL, hg⟩ := h.lies
  exact ⟨L, s.rest r hL, hL, hg⟩
theorem Lst.refStep {α : Type} {R : Rep α} {A : Option Addr} {n : Nat} {l : List α} (h : Lst R w S gx A n l) (hS : ∀ k, S k → k < w.heap.size) (gr : w.grownBy w' (some gx)) (hs : ∀ k, S k → S' k) : Lst R w' S' gx A n l := by
  obtain ⟨L, s, hL, hg⟩ := h.lies
  exact ⟨L, s.gby gr (fun k hk => hS k (hL k hk)) hg, fun k hk => hs k (hL k hk), hg⟩
theorem Lst.sl {α : Type} {R : Rep α} {A : Option Addr} {n : Nat} {l : List α} (h : Lst R w S gx A n l) : IsSl R w S A n l := by
  obtain ⟨L, s, hL, hg⟩ := h.lies
  exact s.weak hL
theorem Lst.old {α : Type} {R : Rep α} {A : Option Addr} {n : Nat} {l : List α} (p : Pair w0 w S g gx x y) (h : IsSl R w0 (· < w0.heap.size) A n l) : Lst R w S gx A n l :=
  ⟨fun k => k < w0.heap.size, h.below p.win.bel, p.win.base, fun h => Nat.lt_irrefl _ (Nat.lt_of_lt_of_le h p.base)⟩

theorem pr_open_w (h : Pair w0 w S g gx x y) (mark id table after : Int) :
    Calls Try.prog 21 #[.pointer (some ⟨g, 0, none⟩), .int .i64 mark, .int .i64 id, .int .i64 table, .int .i64 after] w fun e w' => e = .returned (.bool (x.openOk mark id table after)) ∧ Pair w0 w' S g gx (x.opened mark id table after) y := by
  refine (ws_open h.win mark id table after).mono ?_
  rintro e w' ⟨rfl, o, r⟩
  exact ⟨rfl, h.winStep o r⟩
theorem pr_open_r (h : Pair w0 w S g gx x y) (mark id table after : Int) :
    Calls Try.prog 67 #[.pointer (some ⟨gx, 0, none⟩), .int .i64 mark, .int .i64 id, .int .i64 table, .int .i64 after] w fun e w' => e = .returned (.bool (y.openOk mark id table after)) ∧ ∃ S', Pair w0 w' S' g gx x (y.opened mark id table after) := by
  obtain ⟨T, hr, hT⟩ := h.ref
  refine (refopen_any gx T y mark id table after w hr).mono ?_
  rintro e w' ⟨rfl, r2, gr⟩
  exact ⟨rfl, S, h.refKeep r2 hT gr⟩
theorem pr_fill_w (h : Pair w0 w S g gx x y) (A : Option Addr) (n c : Nat) (l : List Row) (hl : Lst rowRep w S gx A n l) (hn : x.n ≤ 64) (hm : n ≤ maxLen) :
    Calls Try.prog 24 #[.pointer (some ⟨g, 0, none⟩), .slice A n c] w fun e w' => e = .returned (.bool (x.fillOk l)) ∧ Pair w0 w' S g gx (x.filled l) y ∧ Lst rowRep w' S gx A n l := by
  refine (ws_fill h.win A n c l hl.sl hn hm).mono ?_
  rintro e w' ⟨rfl, o, r⟩
  exact ⟨rfl, h.winStep o r, hl.winStep r⟩
theorem pr_fill_r (h : Pair w0 w S g gx x y) (A : Option Addr) (n c : Nat) (l : List Row) (hl : Lst rowRep w S gx A n l) (hn : y.n ≤ 64) (hm : n ≤ maxLen) :
    Calls Try.prog 68 #[.pointer (some ⟨gx, 0, none⟩), .slice A n c] w fun e w' => e = .returned (.bool (y.fillOk l)) ∧ ∃ S', Pair w0 w' S' g gx x (y.filled l) := by
  obtain ⟨T, hr, hT⟩ := h.ref
  obtain ⟨L, s, hL, hg⟩ := hl.lies
  refine (reffill_any gx T y A n c l w hr L (fun k hk => h.win.hS k (hL k hk)) hg s hn hm).mono ?_
  rintro e w' ⟨rfl, r2, gr⟩
  exact ⟨rfl, _, h.refMove r2 hT gr⟩
theorem pr_shut_w (h : Pair w0 w S g gx x y) :
    Calls Try.prog 25 #[.pointer (some ⟨g, 0, none⟩)] w fun e w' => e = .returned (.bool (decide (x.state = 2))) ∧ Pair w0 w' S g gx x.shut y := by
  refine (ws_shut h.win).mono ?_
  rintro e w' ⟨rfl, o, r⟩
  exact ⟨rfl, h.winStep o r⟩
theorem pr_shut_r (h : Pair w0 w S g gx x y) :
    Calls Try.prog 69 #[.pointer (some ⟨gx, 0, none⟩)] w fun e w' => e = .returned (.bool (decide (y.state = 2))) ∧ ∃ S', Pair w0 w' S' g gx x y.shut := by
  obtain ⟨T, hr, hT⟩ := h.ref
  refine (refshut_any gx T y w hr).mono ?_
  rintro e w' ⟨rfl, r2, gr⟩
  exact ⟨rfl, S, h.refKeep r2 hT gr⟩
theorem pr_low_w (h : Pair w0 w S g gx x y) (mark : Int) :
    Calls Try.prog 26 #[.pointer (some ⟨g, 0, none⟩), .int .i64 mark] w fun e w' => e = .returned (.bool (decide (x.state = 3 ∧ mark = x.mark))) ∧ Pair w0 w' S g gx (x.low mark) y := by
  refine (ws_low h.win mark).mono ?_
  rintro e w' ⟨rfl, o, r⟩
  exact ⟨rfl, h.winStep o r⟩
theorem pr_low_r (h : Pair w0 w S g gx x y) (mark : Int) :
    Calls Try.prog 70 #[.pointer (some ⟨gx, 0, none⟩), .int .i64 mark] w fun e w' => e = .returned (.bool (decide (y.state = 3 ∧ mark = y.mark))) ∧ ∃ S', Pair w0 w' S' g gx x (y.low mark) := by
  obtain ⟨T, hr, hT⟩ := h.ref
  refine (reflow_any gx T y mark w hr).mono ?_
  rintro e w' ⟨rfl, r2, gr⟩
  exact ⟨rfl, S, h.refKeep r2 hT gr⟩
theorem pr_see_w (h : Pair w0 w S g gx x y) (A : Option Addr) (n c : Nat) (l : List Chg) (hl : Lst chgRep w S gx A n l) (hn : x.rows.length ≤ 100000) (hm : n ≤ 1000000) :
    Calls Try.prog 27 #[.pointer (some ⟨g, 0, none⟩), .slice A n c] w fun e w' => e = .returned (.int .i64 (x.saw l)) ∧ Pair w0 w' S g gx (x.see l) y ∧ Lst chgRep w' S gx A n l := by
  refine (ws_see h.win A n c l hl.sl hn hm).mono ?_
  rintro e w' ⟨rfl, o, r⟩
  exact ⟨rfl, h.winStep o r, hl.winStep r⟩
theorem pr_see_r (h : Pair w0 w S g gx x y) (A : Option Addr) (n c : Nat) (l : List Chg) (hl : Lst chgRep w S gx A n l) (hn : y.rows.length ≤ 100000) (hm : n ≤ 1000000) :
    Calls Try.prog 71 #[.pointer (some ⟨gx, 0, none⟩), .slice A n c] w fun e w' => e = .returned (.int .i64 (y.saw l)) ∧ ∃ S', Pair w0 w' S' g gx x (y.see l) := by
  obtain ⟨T, hr, hT⟩ := h.ref
  refine (refsee_any gx T y A n c l w hr S h.win.hS hl.sl hn hm).mono ?_
  rintro e w' ⟨rfl, r2, gr⟩
  exact ⟨rfl, _, h.refMove r2 hT gr⟩
theorem pr_waits_w (h : Pair w0 w S g gx x y) (lsn kind mark : Int) :
    Calls Try.prog 34 #[.pointer (some ⟨g, 0, none⟩), .agg #[.int .i64 lsn, .int .i64 kind, .slice none 0 0, .slice none 0 0, .int .i64 mark]] w fun e w' => e = .returned (.bool (x.waits kind mark)) ∧ Pair w0 w' S g gx x y ∧ Rest S w w' ∧ Below w.heap.size w w' := by
  refine (winwaits_any g S x lsn kind mark w h.win.own).mono ?_
  rintro e w' ⟨rfl, b⟩
  exact ⟨rfl, h.winStep (h.win.below b) (h.win.rest b), h.win.rest b, b⟩
theorem pr_waits_r (h : Pair w0 w S g gx x y) (lsn kind mark : Int) :
    Calls Try.prog 74 #[.pointer (some ⟨gx, 0, none⟩), .agg #[.int .i64 lsn, .int .i64 kind, .slice none 0 0, .slice none 0 0, .int .i64 mark]] w fun e w' => e = .returned (.bool (y.waits kind mark)) ∧ (∃ S', Pair w0 w' S' g gx x y) ∧ Below w.heap.size w w' := by
  obtain ⟨T, hr, hT⟩ := h.ref
  refine (refwaits_any gx T y lsn kind mark w hr).mono ?_
  rintro e w' ⟨rfl, b⟩
  exact ⟨rfl, ⟨_, h.below b⟩, b⟩
theorem pr_high_w (h : Pair w0 w S g gx x y) (mark lsn : Int) (hn : x.rows.length ≤ 100000) (hi : I64 x.id) (ht : I64 x.table) (hc : I64 x.cursor) :
    Calls Try.prog 28 #[.pointer (some ⟨g, 0, none⟩), .int .i64 mark, .int .i64 lsn] w fun e w' => ∃ A n c A2 n2 c2, e = .returned (.tuple #[.agg #[.int .i64 (x.tell mark lsn).lsn, .slice A n c, .slice A2 n2 c2], .bool (x.highOk mark lsn)]) ∧ IsSl oprRep w' (fun k => w.heap.size ≤ k ∧ k < w'.heap.size) A n (x.tell mark lsn).ops ∧ IsSl noteRep w' (fun k => w.heap.size ≤ k ∧ k < w'.heap.size) A2 n2 (x.tell mark lsn).notes ∧ Pair w0 w' S g gx (x.told mark lsn) y ∧ Rest S w w' := by
  refine (ws_high h.win mark lsn hn hi ht hc).mono ?_
  rintro e w' ⟨A, n, c, A2, n2, c2, rfl, s1, s2, o, r⟩
  exact ⟨A, n, c, A2, n2, c2, rfl, s1, s2, h.winStep o r, r⟩
theorem pr_high_r (h : Pair w0 w S g gx x y) (mark lsn : Int) (hn : y.rows.length ≤ 100000) (hi : I64 y.id) (ht : I64 y.table) (hc : I64 y.cursor) :
    Calls Try.prog 72 #[.pointer (some ⟨gx, 0, none⟩), .int .i64 mark, .int .i64 lsn] w fun e w' => ∃ A n c A2 n2 c2, e = .returned (.tuple #[.agg #[.int .i64 (y.tell mark lsn).lsn, .slice A n c, .slice A2 n2 c2], .bool (y.highOk mark lsn)]) ∧ IsSl oprRep w' (fun k => w.heap.size ≤ k ∧ k < w'.heap.size) A n (y.tell mark lsn).ops ∧ IsSl noteRep w' (fun k => w.heap.size ≤ k ∧ k < w'.heap.size) A2 n2 (y.tell mark lsn).notes ∧ Pair w0 w' S g gx x (y.told mark lsn) ∧ w.grownBy w' (some gx) := by
  obtain ⟨T, hr, hT⟩ := h.ref
  refine (refhigh_any gx T y mark lsn w hr hn hi ht hc).mono ?_
  rintro e w' ⟨A, n, c, A2, n2, c2, rfl, s1, s2, o, gr⟩
  exact ⟨A, n, c, A2, n2, c2, rfl, s1, s2, h.refKeep o hT gr, gr⟩
theorem Pair.drewN (h : Pair w0 w S g gx x y) (n : Nat) : Pair w0 (w.drewN n) S g gx x y :=
  ⟨⟨by obtain ⟨rv, h1⟩ := h.win.own; exact ⟨rv, h1.blk.drewN n, h1.own.drewN n, h1.ng, h1.nr⟩, h.win.hS, h.win.base, below_drewN h.win.bel n⟩, by obtain ⟨T, ⟨A, c, r⟩, hT⟩ := h.ref; exact ⟨T, ⟨A, c, r.blk, r.rows.keep (fun _ _ => rfl), r.hT, r.ng⟩, hT⟩, h.inS, h.base⟩

set_option maxHeartbeats 16000000 in
set_option maxRecDepth 100000 in
theorem alike_any (h : Pair w0 w S g gx x x) (hn : x.rows.length ≤ 100000) :
    Calls Try.prog 37 #[.pointer (some ⟨g, 0, none⟩), .pointer (some ⟨gx, 0, none⟩)] w fun e w' => e = .returned (.bool true) ∧ ∃ S', Pair w0 w' S' g gx x x := by
  obtain ⟨T, ⟨Ax, cx, hr⟩, hT⟩ := h.ref
  have P := Lib.hid (show Pair w0 w.drew S g gx x x from h.drewN 1)
  have R := Lib.hid (show RefAt w.drew T gx x Ax cx from ⟨hr.blk, hr.rows.keep (fun _ _ => rfl), hr.hT, hr.ng⟩)
  obtain ⟨r0, r1, r2, r3, r4, r5, r6, r7, r8, rz⟩ := hr.blk.c9
  have HL : Hid (x.rows.length ≤ 281474976710656) := Lib.hid (by omega)
  have HN := Lib.hid hn
  obtain ⟨nr, hnr⟩ : ∃ nr, nr = x.rows.length := ⟨_, rfl⟩
  have HNR := Lib.hid hnr
  obtain ⟨rows, hrows⟩ : ∃ rows, rows = x.rows := ⟨_, rfl⟩
  have HRW := Lib.hid hrows
  clear h hr hT rz hnr hrows hn
  go_enter Try.func37, Try.ntmps37
  go_wp2_with fail
  go_region_held3 (fun w' => w'.cell? ⟨gx, 1, none⟩ = some (.int .i64 x.state) ∧ w'.cell? ⟨gx, 2, none⟩ = some (.int .i64 x.id) ∧ w'.cell? ⟨gx, 3, none⟩ = some (.int .i64 x.table) ∧ w'.cell? ⟨gx, 4, none⟩ = some (.int .i64 x.mark) ∧ w'.cell? ⟨gx, 5, none⟩ = some (.int .i64 x.after) ∧ w'.cell? ⟨gx, 8, none⟩ = some (.slice Ax x.rows.length cx)) (first | exact ⟨r1, r2, r3, r4, r5, r8⟩ | exact HK9.out | exact HK8.out | fail)
    (first
    | (go_at_call 31; (with_reducible refine (ws_state P.out.win).mono ?_); rintro e w' ⟨rfl, rfl⟩)
    | (go_at_call 75; (with_reducible refine (winMark_any g S x _ P.out.win.own).mono ?_); rintro e w' ⟨rfl, rfl⟩)
    | (go_at_call 76; (with_reducible refine (winID_any g S x _ P.out.win.own).mono ?_); rintro e w' ⟨rfl, rfl⟩)
    | (go_at_call 77; (with_reducible refine (winTable_any g S x _ P.out.win.own).mono ?_); rintro e w' ⟨rfl, rfl⟩)
    | (go_at_call 78; (with_reducible refine (winAfter_any g S x _ P.out.win.own).mono ?_); rintro e w' ⟨rfl, rfl⟩)
    | (go_at_call 32; (with_reducible refine (winRows_any g S x _ P.out.win.own HN.out).mono ?_); rintro e w8 ⟨v8, rfl, own, bel⟩; have P8 := Lib.hid (P.out.below bel); have R8 := Lib.hid (R.out.below bel); have HK8 := Lib.hid (show w8.cell? ⟨gx, 1, none⟩ = some (.int .i64 x.state) ∧ w8.cell? ⟨gx, 2, none⟩ = some (.int .i64 x.id) ∧ w8.cell? ⟨gx, 3, none⟩ = some (.int .i64 x.table) ∧ w8.cell? ⟨gx, 4, none⟩ = some (.int .i64 x.mark) ∧ w8.cell? ⟨gx, 5, none⟩ = some (.int .i64 x.after) ∧ w8.cell? ⟨gx, 8, none⟩ = some (.slice Ax x.rows.length cx) from ⟨R8.out.blk.1 1 _ rfl, R8.out.blk.1 2 _ rfl, R8.out.blk.1 3 _ rfl, R8.out.blk.1 4 _ rfl, R8.out.blk.1 5 _ rfl, R8.out.blk.1 8 _ rfl⟩); obtain ⟨A8, c8, rfl, _, _, sl⟩ := own.isSl (S' := fun k => k < w8.heap.size) (fun _ h => h.elim) (fun k h1 h2 => h2); have SL8 := Lib.hid sl; clear own bel sl)
    | (go_at_call 79; (with_reducible refine (plain_row A8 Ax x.rows.length x.rows.length c8 cx x.rows _ SL8.out (R8.out.rows.weak (fun k hk => R8.out.hT k hk)) HL.out).mono ?_); rintro e w9 ⟨rfl, bel⟩; have P9 := Lib.hid (P8.out.below bel); have R9 := Lib.hid (R8.out.below bel); have HK9 := Lib.hid (show w9.cell? ⟨gx, 1, none⟩ = some (.int .i64 x.state) ∧ w9.cell? ⟨gx, 2, none⟩ = some (.int .i64 x.id) ∧ w9.cell? ⟨gx, 3, none⟩ = some (.int .i64 x.table) ∧ w9.cell? ⟨gx, 4, none⟩ = some (.int .i64 x.mark) ∧ w9.cell? ⟨gx, 5, none⟩ = some (.int .i64 x.after) ∧ w9.cell? ⟨gx, 8, none⟩ = some (.slice Ax x.rows.length cx) from ⟨R9.out.blk.1 1 _ rfl, R9.out.blk.1 2 _ rfl, R9.out.blk.1 3 _ rfl, R9.out.blk.1 4 _ rfl, R9.out.blk.1 5 _ rfl, R9.out.blk.1 8 _ rfl⟩); clear bel)
    | fail)
  go_wp2_with fail
  go_ret
  exact ⟨rfl, _, P9.out⟩
end
end Go.Proofs.Ytojjeogpggielaa
