/- What the reference reads fields as; contract: the reference's Change. -/
import Derived.Test.YtojjeogpggielaaTxn11
import Derived.Test.YtojjeogpggielaaBlk
set_option linter.unusedVariables false
set_option linter.unusedSimpArgs false
namespace Go.Proofs.Ytojjeogpggielaa
open Go.RowKit

/-- A change of the next fields. -/
def rrChg (l : List Fld) (bad : Bool) : Chg × List Fld × Bool :=
  let a := rintP l bad 7
  let b := rintP a.2.1 a.2.2 1099511627776
  let c := rflagP b.2.1 b.2.2
  let d := rtextP c.2.1 c.2.2
  (⟨a.1, b.1, c.1, d.1⟩, d.2)

def rrChgs : Nat → List Fld → Bool → List Chg → List Chg × List Fld × Bool
  | 0, l, bad, acc => (acc, l, bad)
  | k + 1, l, bad, acc => if bad = true then (acc, l, bad) else rrChgs k (rrChg l bad).2.1 (rrChg l bad).2.2 (acc ++ [(rrChg l bad).1])

def rrTxts : Nat → List Fld → Bool → List ByteArray → List ByteArray × List Fld × Bool
  | 0, l, bad, acc => (acc, l, bad)
  | k + 1, l, bad, acc => if bad = true then (acc, l, bad) else rrTxts k (rtextP l bad).2.1 (rtextP l bad).2.2 (acc ++ [(rtextP l bad).1])

/-- A transaction of fields, what is left, and whether something was wrong. -/
def rrTxn (l : List Fld) : Txn × List Fld × Bool :=
  let a := rintP l false 1099511627776
  let b := rintP a.2.1 a.2.2 3
  let c := rintP b.2.1 b.2.2 1099511627776
  let n := rintP c.2.1 c.2.2 16
  let x := rrChgs n.1.toNat n.2.1 n.2.2 []
  let m := rintP x.2.1 x.2.2 2
  let y := rrTxts m.1.toNat m.2.1 m.2.2 []
  (⟨a.1, b.1, x.1, y.1, c.1⟩, y.2)

theorem rrChgs_stop {k : Nat} {l : List Fld} {bad : Bool} {acc : List Chg} (h : k = 0 ∨ bad = true) : rrChgs k l bad acc = (acc, l, bad) := by
  cases k with
  | zero => rfl
  | succ k => rcases h with h | h
              · omega
              · rw [rrChgs, if_pos h]
theorem rrTxts_stop {k : Nat} {l : List Fld} {bad : Bool} {acc : List ByteArray} (h : k = 0 ∨ bad = true) : rrTxts k l bad acc = (acc, l, bad) := by
  cases k with
  | zero => rfl
  | succ k => rcases h with h | h
              · omega
              · rw [rrTxts, if_pos h]

/-- What is decoded: the transaction, and the error. -/
def rdecTV (b : List UInt8) : Txn := if decE b = 0 ∧ (rrTxn (decV b)).2.2 = false ∧ (rrTxn (decV b)).2.1 = [] ∧ mayTxn (rrTxn (decV b)).1 = true then (rrTxn (decV b)).1 else txn0
def rdecTE (b : List UInt8) : Int := if decE b = 0 then (if (rrTxn (decV b)).2.2 = false ∧ (rrTxn (decV b)).2.1 = [] ∧ mayTxn (rrTxn (decV b)).1 = true then 0 else 3) else decE b

theorem rdec_ok {b : List UInt8} {t : Txn} (he : decE b = 0) (h : rrTxn (decV b) = (t, [], false)) (hm : mayTxn t = true) : rdecTV b = t ∧ rdecTE b = 0 := by
  unfold rdecTV rdecTE
  rw [h]
  dsimp only
  rw [if_pos ⟨he, rfl, rfl, hm⟩, if_pos he, if_pos ⟨rfl, rfl, hm⟩]
  exact ⟨rfl, rfl⟩

theorem rdec_no {b : List UInt8} {t : Txn} {l : List Fld} {bad : Bool} (he : decE b = 0) (h : rrTxn (decV b) = (t, l, bad)) (hm : ¬ (bad = false ∧ l = [] ∧ mayTxn t = true)) : rdecTV b = txn0 ∧ rdecTE b = 3 := by
  unfold rdecTV rdecTE
  rw [h]
  dsimp only
  rw [if_neg (fun h => hm h.2), if_pos he, if_neg hm]
  exact ⟨rfl, rfl⟩

theorem rdec_err {b : List UInt8} (he : ¬ decE b = 0) : rdecTV b = txn0 ∧ rdecTE b = decE b := by
  unfold rdecTV rdecTE
  rw [if_neg (fun h => he h.1), if_neg he]
  exact ⟨rfl, rfl⟩

/-! ### What is read may lie in memory -/
theorem rintP_wf {l : List Fld} (h : wfL l) (bad : Bool) (m : Int) (hm : 0 ≤ m) : 0 ≤ (rintP l bad m).1 ∧ (rintP l bad m).1 ≤ m ∧ wfL (rintP l bad m).2.1 := by
  cases bad
  · cases l with
    | nil => exact ⟨Int.le_refl _, hm, h⟩
    | cons f r =>
      unfold rintP
      dsimp only
      split
      · exact ⟨by omega, by omega, fun x hx => h x (List.mem_cons_of_mem _ hx)⟩
      · exact ⟨Int.le_refl _, hm, h⟩
  · exact ⟨Int.le_refl _, hm, h⟩

theorem rtextP_wf {l : List Fld} (h : wfL l) (bad : Bool) : (rtextP l bad).1.size ≤ maxLen ∧ wfL (rtextP l bad).2.1 := by
  cases bad
  · cases l with
    | nil => exact ⟨Nat.zero_le _, h⟩
    | cons f r =>
      unfold rtextP
      dsimp only
      split
      · exact ⟨(h f (List.mem_cons_self ..)).2.2, fun x hx => h x (List.mem_cons_of_mem _ hx)⟩
      · exact ⟨Nat.zero_le _, h⟩
  · exact ⟨Nat.zero_le _, h⟩

theorem rflagP_wf {l : List Fld} (h : wfL l) (bad : Bool) : wfL (rflagP l bad).2.1 := (rintP_wf h bad 1 (by omega)).2.2

theorem rrChg_wf {l : List Fld} (h : wfL l) (bad : Bool) : (rrChg l bad).1.wf ∧ wfL (rrChg l bad).2.1 := by
  have ha := rintP_wf h bad 7 (by omega)
  have hb := rintP_wf ha.2.2 (rintP l bad 7).2.2 1099511627776 (by omega)
  have hc := rflagP_wf hb.2.2 (rintP (rintP l bad 7).2.1 (rintP l bad 7).2.2 1099511627776).2.2
  have hd := rtextP_wf hc (rflagP (rintP (rintP l bad 7).2.1 (rintP l bad 7).2.2 1099511627776).2.1 (rintP (rintP l bad 7).2.1 (rintP l bad 7).2.2 1099511627776).2.2).2.2
  refine ⟨⟨?_, ?_, hd.1⟩, hd.2⟩
  · show I64 (rintP l bad 7).1
    unfold I64
    omega
  · show I64 (rintP (rintP l bad 7).2.1 (rintP l bad 7).2.2 1099511627776).1
    unfold I64
    omega

theorem RRd.new {w : World} {A : Option Addr} {n c : Nat} {l : List Fld} (h : IsSl fldRep w (· < w.heap.size) A n l) (hnc : n ≤ c) (hcm : c ≤ maxLen) (t : TypeId) : RRd (w.alloc (.cells #[.slice A n c, .int .i64 0, .bool false] t)) w.heap.size w.heap.size l false := by
  obtain ⟨c0, c1, c2, z⟩ := (Blk.new (w := w) (cs := #[.slice A n c, .int .i64 0, .bool false]) (t := t) rfl rfl).c3
  exact ⟨A, n, c, 0, l, c0, c1, c2, z, h.below ((Below.refl _ _).alloc (Nat.le_refl _) _), hnc, hcm, Nat.zero_le _, rfl⟩

set_option maxRecDepth 100000 in
set_option maxHeartbeats 4000000 in
theorem rchange_any (B g : Nat) (l : List Fld) (bad : Bool) (w : World) (h : RRd w B g l bad) (hg : B ≤ g) :
    Calls Try.prog 105 #[.pointer (some ⟨g, 0, none⟩)] w fun ev w' => ev = .returned (.agg #[.int .i64 (rrChg l bad).1.table, .int .i64 (rrChg l bad).1.key, .bool (rrChg l bad).1.gone, .string (rrChg l bad).1.val]) ∧ RRd w' B g (rrChg l bad).2.1 (rrChg l bad).2.2 ∧ w.grownBy w' (some g) := by
  have hgs := h.lt
  have H := Lib.hid (h.alloc hg (.cells #[.int .i64 0, .int .i64 0, .bool false, .string ⟨#[]⟩] 53))
  obtain ⟨a, ha⟩ : ∃ a, a = rintP l bad 7 := ⟨_, rfl⟩
  obtain ⟨x1, l1, b1⟩ := a
  obtain ⟨b, hb⟩ : ∃ b, b = rintP l1 b1 1099511627776 := ⟨_, rfl⟩
  obtain ⟨x2, l2, b2⟩ := b
  obtain ⟨c, hc⟩ : ∃ c, c = rflagP l2 b2 := ⟨_, rfl⟩
  obtain ⟨x3, l3, b3⟩ := c
  obtain ⟨d, hd⟩ : ∃ d, d = rtextP l3 b3 := ⟨_, rfl⟩
  obtain ⟨x4, l4, b4⟩ := d
  have HR := Lib.hid (show rrChg l bad = (⟨x1, x2, x3, x4⟩, l4, b4) by unfold rrChg; rw [← ha]; dsimp only; rw [← hb]; dsimp only; rw [← hc]; dsimp only; rw [← hd])
  have HA := Lib.hid ha
  have HB := Lib.hid hb
  have HC := Lib.hid hc
  have HD := Lib.hid hd
  have R0 := Lib.hid (Blk.new (w := w) (cs := #[.int .i64 0, .int .i64 0, .bool false, .string ⟨#[]⟩]) (t := 53) rfl rfl)
  clear h ha hb hc hd
  go_enter Try.func105, Try.ntmps105
  go_wp2_with (first
    | (go_at_call 104; (with_reducible refine (rint_any B g l bad 7 _ H.out hg).mono ?_); rintro ev w2 ⟨rfl, rd2, gr2⟩; rw [← HA.out] at rd2 ⊢; have R2 := Lib.hid ((R0.out.grown gr2 (fun k hk => by injection hk with hk; omega)).alloc (.cells #[.int .i64 x1, .int .i64 0, .bool false, .string ⟨#[]⟩] 53)); have D2 := Lib.hid (Blk.new (w := w2) (cs := #[.int .i64 x1, .int .i64 0, .bool false, .string ⟨#[]⟩]) (t := 53) rfl rfl); have RD2 := Lib.hid (rd2.alloc hg (.cells #[.int .i64 x1, .int .i64 0, .bool false, .string ⟨#[]⟩] 53)); have GR2 := Lib.hid (grown_far gr2 (World.grownBy_alloc w2 (.cells #[.int .i64 x1, .int .i64 0, .bool false, .string ⟨#[]⟩] 53) none) (fun _ h => by cases h)); have hs2 : w.heap.size + 1 ≤ w2.heap.size := (by have h := gr2.size; simpa using h); have hgD : g < w2.heap.size := (by omega); have hne1 : (w.heap.size = w2.heap.size) = False := (by simp; omega); have hne2 : (w2.heap.size = w.heap.size) = False := (by simp; omega); clear rd2 gr2)
    | (go_at_call 104; (with_reducible refine (rint_any B g l1 b1 1099511627776 _ RD2.out hg).mono ?_); rintro ev w3 ⟨rfl, rd2, gr2⟩; rw [← HB.out] at rd2 ⊢; have RD3 := Lib.hid rd2; have E0 := (D2.out).grown gr2 (fun k hk => by injection hk with hk; omega); obtain ⟨d0, d1, d2, d3, dz⟩ := E0.c4; have D3 := Lib.hid E0; have R3 := Lib.hid (R2.out.grown gr2 (fun k hk => by injection hk with hk; omega)); have GR3 := Lib.hid (grown_trans GR2.out gr2); clear rd2 gr2 E0)
    | (go_at_call 129; (with_reducible refine (rflag_any B g l2 b2 _ (RD3.out.stored hg hgD 1 _) hg).mono ?_); rintro ev w4 ⟨rfl, rd2, gr2⟩; rw [← HC.out] at rd2 ⊢; have RD4 := Lib.hid rd2; have E0 := (D3.out.put (j := 1) (by simp) (cs' := [.int .i64 x1, .int .i64 x2, .bool false, .string ⟨#[]⟩]) _ rfl).grown gr2 (fun k hk => by injection hk with hk; omega); obtain ⟨d0, d1, d2, d3, dz⟩ := E0.c4; have D4 := Lib.hid E0; have R4 := Lib.hid ((R3.out.other (by omega) 1 _).grown gr2 (fun k hk => by injection hk with hk; omega)); have GR4 := Lib.hid (grown_trans (grown_far GR3.out (grown_setB _ ⟨w2.heap.size, 1, none⟩ _) (fun k hk => by injection hk with hk; subst hk; simp; omega)) gr2); clear rd2 gr2 E0)
    | (go_at_call 106; (with_reducible refine (rtext_any B g l3 b3 _ (RD4.out.stored hg hgD 2 _) hg).mono ?_); rintro ev w5 ⟨rfl, rd2, gr2⟩; rw [← HD.out] at rd2 ⊢; have RD5 := Lib.hid rd2; have E0 := (D4.out.put (j := 2) (by simp) (cs' := [.int .i64 x1, .int .i64 x2, .bool x3, .string ⟨#[]⟩]) _ rfl).grown gr2 (fun k hk => by injection hk with hk; omega); obtain ⟨d0, d1, d2, d3, dz⟩ := E0.c4; have D5 := Lib.hid E0; have R5 := Lib.hid ((R4.out.other (by omega) 2 _).grown gr2 (fun k hk => by injection hk with hk; omega)); have GR5 := Lib.hid (grown_trans (grown_far GR4.out (grown_setB _ ⟨w2.heap.size, 2, none⟩ _) (fun k hk => by injection hk with hk; subst hk; simp; omega)) gr2); obtain ⟨r0, r1, r2, r3, rz⟩ := R5.out.c4; clear rd2 gr2 E0)
    | fail)
  refine bodyPost_ret (by simp [results, Try.results105, go_sem, r0, r1, r2, r3]; try rfl) rfl ?_
  rw [HR.out]
  have hw2 : w.heap.size ≤ w2.heap.size := by omega
  exact ⟨rfl, (((((RD5.out.stored hg hgD 3 _).stored hg hgs 0 _).stored hg hgs 1 _).stored hg hgs 2 _).stored hg hgs 3 _), grown_set (grown_set (grown_set (grown_set (grown_set (grown_new GR5.out) hw2) (Nat.le_refl _)) (Nat.le_refl _)) (Nat.le_refl _)) (Nat.le_refl _)⟩
end Go.Proofs.Ytojjeogpggielaa
