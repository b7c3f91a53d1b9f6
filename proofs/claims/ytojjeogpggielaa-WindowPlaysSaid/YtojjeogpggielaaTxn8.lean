/- What the fields are read as; contract: txn.change. -/
import Derived.Test.YtojjeogpggielaaTxn7
set_option linter.unusedVariables false
namespace Go.Proofs.Ytojjeogpggielaa
open Go.RowKit

/-- A change of the next fields. -/
def rdChg (l : List Fld) (bad : Bool) : Chg × List Fld × Bool :=
  let a := smallP l bad 8
  let b := intP a.2.1 a.2.2
  let c := bitP b.2.1 b.2.2
  let d := textP c.2.1 c.2.2
  (⟨a.1, b.1, c.1, d.1⟩, d.2)

def rdChgs : Nat → List Fld → Bool → List Chg → List Chg × List Fld × Bool
  | 0, l, bad, acc => (acc, l, bad)
  | k + 1, l, bad, acc => rdChgs k (rdChg l bad).2.1 (rdChg l bad).2.2 (acc ++ [(rdChg l bad).1])

def rdTxts : Nat → List Fld → Bool → List ByteArray → List ByteArray × List Fld × Bool
  | 0, l, bad, acc => (acc, l, bad)
  | k + 1, l, bad, acc => rdTxts k (textP l bad).2.1 (textP l bad).2.2 (acc ++ [(textP l bad).1])

/-- A transaction of fields, what is left, and whether something was wrong. -/
def rdTxn (l : List Fld) : Txn × List Fld × Bool :=
  let a := intP l false
  let b := smallP a.2.1 a.2.2 3
  let c := intP b.2.1 b.2.2
  let n := smallP c.2.1 c.2.2 16
  let x := rdChgs n.1.toNat n.2.1 n.2.2 []
  let m := smallP x.2.1 x.2.2 2
  let y := rdTxts m.1.toNat m.2.1 m.2.2 []
  (⟨a.1, b.1, x.1, y.1, c.1⟩, y.2)

def txn0 : Txn := ⟨0, 0, [], [], 0⟩

/-- What is decoded: the transaction, and the error. -/
def decTV (b : List UInt8) : Txn := if decE b = 0 ∧ (rdTxn (decV b)).2.2 = false ∧ (rdTxn (decV b)).2.1 = [] ∧ mayTxn (rdTxn (decV b)).1 = true then (rdTxn (decV b)).1 else txn0
def decTE (b : List UInt8) : Int := if decE b = 0 then (if (rdTxn (decV b)).2.2 = false ∧ (rdTxn (decV b)).2.1 = [] ∧ mayTxn (rdTxn (decV b)).1 = true then 0 else 3) else decE b

/-! ### What is read may lie in memory -/
def wfL (l : List Fld) : Prop := ∀ f ∈ l, f.wf

theorem fld0_wf : fld0.wf := ⟨by unfold I64 fld0; simp, by unfold I64 fld0; simp, by show 0 ≤ _; omega⟩

theorem nextP_wf {l : List Fld} (h : wfL l) (bad : Bool) (k : Int) : (nextP l bad k).1.wf ∧ wfL (nextP l bad k).2.1 := by
  cases bad
  · cases l with
    | nil => exact ⟨fld0_wf, h⟩
    | cons f r =>
      show (if f.kind = k then (f, r, false) else (fld0, f :: r, true) : Fld × List Fld × Bool).1.wf ∧ wfL (if f.kind = k then (f, r, false) else (fld0, f :: r, true) : Fld × List Fld × Bool).2.1
      split
      · exact ⟨h f (List.mem_cons_self ..), fun x hx => h x (List.mem_cons_of_mem _ hx)⟩
      · exact ⟨fld0_wf, h⟩
  · exact ⟨fld0_wf, h⟩

theorem intP_wf {l : List Fld} (h : wfL l) (bad : Bool) : I64 (intP l bad).1 ∧ wfL (intP l bad).2.1 := ⟨(nextP_wf h bad 1).1.2.1, (nextP_wf h bad 1).2⟩
theorem textP_wf {l : List Fld} (h : wfL l) (bad : Bool) : (textP l bad).1.size ≤ maxLen ∧ wfL (textP l bad).2.1 := ⟨(nextP_wf h bad 2).1.2.2, (nextP_wf h bad 2).2⟩
theorem smallP_wf {l : List Fld} (h : wfL l) (bad : Bool) (m : Int) (hm : 0 ≤ m) : 0 ≤ (smallP l bad m).1 ∧ (smallP l bad m).1 ≤ m ∧ wfL (smallP l bad m).2.1 := by
  have h1 := intP_wf h bad
  unfold smallP
  split
  · exact ⟨Int.le_refl _, hm, h1.2⟩
  · exact ⟨by omega, by omega, h1.2⟩
theorem bitP_wf {l : List Fld} (h : wfL l) (bad : Bool) : wfL (bitP l bad).2.1 := (smallP_wf h bad 1 (by omega)).2.2

theorem rdChg_wf {l : List Fld} (h : wfL l) (bad : Bool) : (rdChg l bad).1.wf ∧ wfL (rdChg l bad).2.1 := by
  have ha := smallP_wf h bad 8 (by omega)
  have hb := intP_wf ha.2.2 (smallP l bad 8).2.2
  have hc := bitP_wf hb.2 (intP (smallP l bad 8).2.1 (smallP l bad 8).2.2).2.2
  have hd := textP_wf hc (bitP (intP (smallP l bad 8).2.1 (smallP l bad 8).2.2).2.1 (intP (smallP l bad 8).2.1 (smallP l bad 8).2.2).2.2).2.2
  refine ⟨⟨?_, hb.1, hd.1⟩, hd.2⟩
  show I64 (smallP l bad 8).1
  unfold I64
  omega

theorem rdChgs_wf : ∀ (k : Nat) {l : List Fld} (h : wfL l) (bad : Bool) (acc : List Chg), wfL (rdChgs k l bad acc).2.1
  | 0, _, h, _, _ => h
  | k + 1, _, h, bad, _ => rdChgs_wf k (rdChg_wf h bad).2 _ _

theorem rdTxts_wf : ∀ (k : Nat) {l : List Fld} (h : wfL l) (bad : Bool) (acc : List ByteArray), wfL (rdTxts k l bad acc).2.1
  | 0, _, h, _, _ => h
  | k + 1, _, h, bad, _ => rdTxts_wf k (textP_wf h bad).2 _ _

set_option maxRecDepth 100000 in
set_option maxHeartbeats 2000000 in
theorem txnchange_any (B g : Nat) (l : List Fld) (bad : Bool) (w : World) (h : PRd w B g l bad) (hg : B ≤ g) :
    Calls Try.prog 96 #[.pointer (some ⟨g, 0, none⟩)] w fun ev w' => ev = .returned (.agg #[.int .i64 (rdChg l bad).1.table, .int .i64 (rdChg l bad).1.key, .bool (rdChg l bad).1.gone, .string (rdChg l bad).1.val]) ∧ PRd w' B g (rdChg l bad).2.1 (rdChg l bad).2.2 ∧ w.grownBy w' (some g) := by
  have hgs := h.lt
  have H := Lib.hid (h.alloc hg (.cells #[.int .i64 0, .int .i64 0, .bool false, .string ⟨#[]⟩] 53))
  obtain ⟨a, ha⟩ : ∃ a, a = smallP l bad 8 := ⟨_, rfl⟩
  obtain ⟨x1, l1, b1⟩ := a
  obtain ⟨b, hb⟩ : ∃ b, b = intP l1 b1 := ⟨_, rfl⟩
  obtain ⟨x2, l2, b2⟩ := b
  obtain ⟨c, hc⟩ : ∃ c, c = bitP l2 b2 := ⟨_, rfl⟩
  obtain ⟨x3, l3, b3⟩ := c
  obtain ⟨d, hd⟩ : ∃ d, d = textP l3 b3 := ⟨_, rfl⟩
  obtain ⟨x4, l4, b4⟩ := d
  have HR := Lib.hid (show rdChg l bad = (⟨x1, x2, x3, x4⟩, l4, b4) by unfold rdChg; rw [← ha]; dsimp only; rw [← hb]; dsimp only; rw [← hc]; dsimp only; rw [← hd])
  have HA := Lib.hid ha
  have HB := Lib.hid hb
  have HC := Lib.hid hc
  have HD := Lib.hid hd
  clear h ha hb hc hd
  go_enter Try.func96, Try.ntmps96
  go_wp2_with (first
    | (go_at_call 95; (with_reducible refine (psmall_any B g l bad 8 _ H.out hg).mono ?_); rintro ev w2 ⟨rfl, rd2, gr2⟩; rw [← HA.out] at rd2 ⊢; obtain ⟨c0, z0⟩ := grown_cells (j := 0) hgs rfl gr2 rfl; obtain ⟨c1, z1⟩ := grown_cells (j := 1) hgs rfl gr2 rfl; obtain ⟨c2, z2⟩ := grown_cells (j := 2) hgs rfl gr2 rfl; obtain ⟨c3, z3⟩ := grown_cells (j := 3) hgs rfl gr2 rfl; have RD := Lib.hid rd2; have GR := Lib.hid gr2; clear rd2 gr2)
    | (go_at_call 94; (with_reducible refine (pint_any B g l1 b1 _ RD.out hg).mono ?_); rintro ev w3 ⟨rfl, rd2, gr2⟩; rw [← HB.out] at rd2 ⊢; have RD := Lib.hid rd2; have GR := Lib.hid (grownBy_trans GR.out gr2); obtain ⟨c0, z0⟩ := grown_cells (j := 0) hgs rfl GR.out rfl; obtain ⟨c1, z1⟩ := grown_cells (j := 1) hgs rfl GR.out rfl; obtain ⟨c2, z2⟩ := grown_cells (j := 2) hgs rfl GR.out rfl; obtain ⟨c3, z3⟩ := grown_cells (j := 3) hgs rfl GR.out rfl; clear rd2 gr2)
    | (go_at_call 123; (with_reducible refine (pbit_any B g l2 b2 _ RD.out hg).mono ?_); rintro ev w3 ⟨rfl, rd2, gr2⟩; rw [← HC.out] at rd2 ⊢; have RD := Lib.hid rd2; have GR := Lib.hid (grownBy_trans GR.out gr2); obtain ⟨c0, z0⟩ := grown_cells (j := 0) hgs rfl GR.out rfl; obtain ⟨c1, z1⟩ := grown_cells (j := 1) hgs rfl GR.out rfl; obtain ⟨c2, z2⟩ := grown_cells (j := 2) hgs rfl GR.out rfl; obtain ⟨c3, z3⟩ := grown_cells (j := 3) hgs rfl GR.out rfl; clear rd2 gr2)
    | (go_at_call 97; (with_reducible refine (ptext_any B g l3 b3 _ RD.out hg).mono ?_); rintro ev w3 ⟨rfl, rd2, gr2⟩; rw [← HD.out] at rd2 ⊢; have RD := Lib.hid rd2; have GR := Lib.hid (grownBy_trans GR.out gr2); obtain ⟨c0, z0⟩ := grown_cells (j := 0) hgs rfl GR.out rfl; obtain ⟨c1, z1⟩ := grown_cells (j := 1) hgs rfl GR.out rfl; obtain ⟨c2, z2⟩ := grown_cells (j := 2) hgs rfl GR.out rfl; obtain ⟨c3, z3⟩ := grown_cells (j := 3) hgs rfl GR.out rfl; clear rd2 gr2)
    | fail)
  refine bodyPost_ret (by simp [results, Try.results96, go_sem, c0, c1, c2, c3]; try rfl) rfl ?_
  rw [HR.out]
  exact ⟨rfl, ((((RD.out.stored hg hgs 0 _).stored hg hgs 1 _).stored hg hgs 2 _).stored hg hgs 3 _), grown_set (grown_set (grown_set (grown_set (grown_new GR.out) (Nat.le_refl _)) (Nat.le_refl _)) (Nat.le_refl _)) (Nat.le_refl _)⟩
end Go.Proofs.Ytojjeogpggielaa
