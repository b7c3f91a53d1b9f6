/- Contract of the window: See. Contract of the window: Waits. Contract of the window: High. Contracts: the window's High, whole; the law's awake. The window's contracts, for the laws: what stands beside the window. -/
import Derived.Test.YthhpddiicnjmmaaWinA
import Derived.Test.YthhpddiicnjmmaaTxnA
import Derived.Test.YthhpddiicnjmmaaTypesM
import Derived.Deep.RegionHeld3
import Derived.Deep.DeepCutAuto
import Derived.BigRegion
set_option linter.unusedVariables false
set_option linter.unusedSimpArgs false
set_option maxRecDepth 100000
namespace Go.Proofs.Ythhpddiicnjmmaa
open Go.RowKit

/-- What is left of rows when changes are seen. -/
def seeL (table : Int) : List Chg → List Row → List Row
  | [], rs => rs
  | c :: t, rs => seeL table t (if c.table = table then rs.filter (keepK c.key) else rs)

theorem seeL_snoc (table : Int) (c : Chg) : ∀ (l : List Chg) (rs : List Row), seeL table (l ++ [c]) rs = if c.table = table then (seeL table l rs).filter (keepK c.key) else seeL table l rs
  | [], rs => rfl
  | d :: t, rs => by rw [List.cons_append, seeL, seeL, seeL_snoc table c t]

theorem seeL_len (table : Int) : ∀ (l : List Chg) (rs : List Row), (seeL table l rs).length ≤ rs.length
  | [], rs => Nat.le_refl _
  | c :: t, rs => by
    rw [seeL]
    split
    · exact Nat.le_trans (seeL_len table t _) (List.length_filter_le _ _)
    · exact seeL_len table t _

def Win.see (x : Win) (l : List Chg) : Win := if x.state = 4 then ⟨x.mark, x.after, x.id, x.table, seeL x.table l x.rows, x.cursor, x.last, x.n, x.state⟩ else x
def Win.saw (x : Win) (l : List Chg) : Int := if x.state = 4 then (x.rows.length : Int) - ((seeL x.table l x.rows).length : Int) else 0

/-- Rows that were thrown out of the window's row. -/
theorem WinAt.delete {w w2 : World} {S : Nat → Prop} {g : Nat} {xm xa xi xt xc xn xs : Int} {xr r' : List Row} {xl : Bool} {A : Option Addr} {n m c : Nat} (h : WinAt w S g ⟨xm, xa, xi, xt, xr, xc, xl, xn, xs⟩ (.slice A n c)) (o : Own rowRep w2 0 (fun _ => False) 80 (.slice A m c) r') (hr : Rest (But w (.slice A n c)) w w2) :
    WinAt (w2.setCell ⟨g, 4, none⟩ (.slice A m c)) S g ⟨xm, xa, xi, xt, r', xc, xl, xn, xs⟩ (.slice A m c) := by
  have he : rowOf (.slice A m c) = rowOf (.slice A n c) := by cases A <;> cases c <;> rfl
  have hg : But w (.slice A n c) g := ⟨h.lt, fun e => (h.nr g e).2 rfl⟩
  exact ⟨(h.blk.rest hr hg).put (j := 4) (by simp) _ rfl, o.setG (fun r e => (h.nr r (by rw [← he]; exact e)).2) 4 _, h.ng, fun r e => h.nr r (by rw [← he]; exact e)⟩

theorem WinAt.drew {w : World} {S : Nat → Prop} {g : Nat} {x : Win} {rv : Value} (h : WinAt w S g x rv) : WinAt w.drew S g x rv := ⟨h.blk.drew, h.own.drew, h.ng, h.nr⟩

theorem Rest.drew {S : Nat → Prop} {a b : World} (h : Rest S a b) : Rest S a b.drew := ⟨h.os, h.tape, h.output, h.size, h.block⟩

set_option maxHeartbeats 8000000 in
set_option maxRecDepth 100000 in
theorem winsee_any (g : Nat) (S : Nat → Prop) (x : Win) (A : Option Addr) (n c : Nat) (l : List Chg) (w : World) (hS : ∀ k, S k → k < w.heap.size) (h : WinOwn w S g x) (T : Nat → Prop) (hT : ∀ k, T k → S k) (hl : IsSl chgRep w T A n l) (hn : x.rows.length ≤ 100000) (hm : n ≤ 1000000) :
    Calls Try.prog 134 #[.pointer (some ⟨g, 0, none⟩), .slice A n c] w fun e w' => e = .returned (.int .i64 (x.saw l)) ∧ WinOwn w' S g (x.see l) ∧ Rest S w w' := by
  have H := Lib.hid h
  obtain ⟨rv, h⟩ := h
  obtain ⟨c0, c1, c2, c3, c4, c5, c6, c7, c8, cz⟩ := h.blk.c9
  have hmf : ∀ (fn : Fn) (first cap : Array Value) (w : World), (Instr.makeFunc fn first cap).run Try.prog w = .ok (.func fn first cap) w := fun _ _ _ _ => rfl
  have HL := Lib.hid hl
  have HN := Lib.hid hl.len
  obtain ⟨xm, xa, xi, xt, xr, xc, xl, xn, xs⟩ := x
  dsimp only at c0 c1 c2 c3 c4 c5 c6 c7 c8 hn
  obtain ⟨Ar, cr, hrv⟩ := h.own.form
  dsimp only at hrv
  subst hrv
  have HA := Lib.hid h
  clear h hl
  by_cases h0 : ¬ xs = 4
  · have HF := Lib.hid (show Win.saw ⟨xm, xa, xi, xt, xr, xc, xl, xn, xs⟩ l = 0 ∧ Win.see ⟨xm, xa, xi, xt, xr, xc, xl, xn, xs⟩ l = ⟨xm, xa, xi, xt, xr, xc, xl, xn, xs⟩ from ⟨if_neg h0, if_neg h0⟩)
    have d0 : (xs == 4) = false := by simpa using h0
    have d0n : (xs != 4) = true := by simpa using h0
    have d0d : decide (xs = 4) = false := decide_eq_false h0
    clear h0
    go_enter Try.func134, Try.ntmps134
    go_wp2
    go_ret
    rw [HF.out.1, HF.out.2]
    exact ⟨rfl, H.out, Rest.refl _ _⟩
  obtain rfl : xs = 4 := Classical.byContradiction h0
  clear h0
  have HT := Lib.hid (show Win.saw ⟨xm, xa, xi, xt, xr, xc, xl, xn, 4⟩ l = (xr.length : Int) - ((seeL xt l xr).length : Int) ∧ Win.see ⟨xm, xa, xi, xt, xr, xc, xl, xn, 4⟩ l = ⟨xm, xa, xi, xt, seeL xt l xr, xc, xl, xn, 4⟩ from ⟨if_pos rfl, if_pos rfl⟩)
  obtain ⟨was, hwas⟩ : ∃ was, was = xr.length := ⟨_, rfl⟩
  rw [← hwas] at c4 hn
  have HWAS := Lib.hid hwas
  clear hwas
  go_enter Try.func134, Try.ntmps134
  go_wp2_with fail
  go_loopw [21] (fun i wr => ∃ (p : Nat) (A' : Option Addr) (m' c' : Nat), i = .int .i64 p ∧ p ≤ n ∧ m' = (seeL xt (l.take p) xr).length ∧ WinAt wr S g ⟨xm, xa, xi, xt, seeL xt (l.take p) xr, xc, xl, xn, 4⟩ (.slice A' m' c') ∧ Rest S w wr) (fun i _ => n - (intOf i).toNat)
  case atStart => exact ⟨0, Ar, xr.length, cr, rfl, Nat.zero_le _, rfl, HA.out, Rest.refl _ _⟩
  case round =>
    obtain ⟨p, A', m', c', rfl, hp, hm', hwa, hrest⟩ := hrel
    have WA := Lib.hid hwa
    have R := Lib.hid hrest
    have hsz := hrest.size
    have HM' := Lib.hid hm'
    have hml : m' ≤ 100000 := by rw [hm']; have := seeL_len xt (l.take p) xr; have := HWAS.out; omega
    obtain ⟨k0, k1, k2, k3, k4, k5, k6, k7, k8, kz⟩ := hwa.blk.c9
    have hgw := hwa.lt
    clear hwa hrest hm'
    by_cases hlt : p < n
    · have hd : decide ((p : Int) < (n : Int)) = true := decide_eq_true (by omega)
      have hpi : (p : Int) < (n : Int) := by omega
      obtain ⟨b0, off, y, cs, rfl, hbT, hy, ⟨rfl, hwf⟩, hcs⟩ := (HL.out.rest R.out hT).at_ hlt
      have q0 : wr.cell? ⟨b0, off + p * 4, none⟩ = some (.int .i64 y.table) := hcs 0 _ rfl
      have q1 : wr.cell? ⟨b0, off + p * 4 + 1, none⟩ = some (.int .i64 y.key) := hcs 1 _ rfl
      have q2 : wr.cell? ⟨b0, off + p * 4 + 2, none⟩ = some (.bool y.gone) := hcs 2 _ rfl
      have q3 : wr.cell? ⟨b0, off + p * 4 + 3, none⟩ = some (.string y.val) := hcs 3 _ rfl
      have HTK := Lib.hid (show seeL xt (l.take (p + 1)) xr = if y.table = xt then (seeL xt (l.take p) xr).filter (keepK y.key) else seeL xt (l.take p) xr by rw [take_snoc hy, seeL_snoc])
      obtain ⟨yt, yk, yg, yv⟩ := y
      dsimp only at q0 q1 q2 q3
      clear hcs hy hwf
      obtain ⟨W1, hW1⟩ : ∃ W1, W1 = wr.alloc (.cells #[.int .i64 yt, .int .i64 yk, .bool yg, .string yv] 162) := ⟨_, rfl⟩
      have B1 : Below wr.heap.size wr W1 := by rw [hW1]; exact (Below.refl _ _).alloc (Nat.le_refl _) _
      have WA1 := Lib.hid (WA.out.below B1)
      have R1 := Lib.hid (show Rest S w W1 from R.out.new hS B1)
      have hcb : W1.cell? ⟨wr.heap.size, 1, none⟩ = some (.int .i64 yk) := by rw [hW1]; exact World.cell?_alloc_at _ _ _ _ rfl
      have hct : W1.cell? ⟨wr.heap.size, 0, none⟩ = some (.int .i64 yt) := by rw [hW1]; exact World.cell?_alloc_at _ _ _ _ rfl
      obtain ⟨k0, k1, k2, k3, k4, k5, k6, k7, k8, kz⟩ := WA1.out.blk.c9
      have HW1 := Lib.hid hW1
      clear hW1 B1
      have WD := Lib.hid WA1.out.drew
      have RD := Lib.hid R1.out.drew
      have hcbd : W1.drew.cell? ⟨wr.heap.size, 1, none⟩ = some (.int .i64 yk) := hcb
      have hWs : wr.heap.size < W1.drew.heap.size := World.block_lt_of_cell? W1 _ hcb
      obtain ⟨r0, r1, r2, r3, r4, r5, r6, r7, r8, rz⟩ := WD.out.blk.c9
      have hgd : g < wr.heap.size := hgw
      have hrow : rowOf (.slice A' m' c') ≠ some wr.heap.size := fun e => Nat.lt_irrefl _ (WA.out.own.row_lt e)
      by_cases g1 : yt = xt
      · have e1 : (yt == xt) = true := by simpa using g1
        have HG := Lib.hid g1
        clear g1
        go_wp2_with fail
        rw [← HW1.out]
        go_region_held3 (fun w' => w'.cell? ⟨wr.heap.size, 0, none⟩ = some (.int .i64 yt) ∧ w'.cell? ⟨g, 3, none⟩ = some (.int .i64 xt)) (first | exact ⟨hct, k3⟩ | fail) (fail)
        go_wp2_with (first
          | (go_at_call 157; (with_reducible refine (delfunc_any A' m' c' (seeL xt (l.take p) xr) wr.heap.size yk W1.drew WD.out.own hml hcbd hrow).mono ?_); rintro e w2 ⟨m2, rfl, own2, rest2⟩; have WN := Lib.hid (WD.out.delete own2 rest2); have RN := Lib.hid (RD.out.trans (rest2.less (fun k hk => ⟨by have h1 := hS k hk; have h2 := RD.out.size; omega, fun e => (WD.out.nr k e).1 hk⟩))); have hb2 := WD.out.blk.rest rest2 ⟨WD.out.lt, fun e => (WD.out.nr g e).2 rfl⟩; obtain ⟨t0, t1, t2, t3, t4, t5, t6, t7, t8, tz⟩ := hb2.c9; have M2 := Lib.hid own2.form; clear own2 rest2 hb2)
          | fail)
        go_roundw
        case rel =>
          have hk := HTK.out
          (try dsimp only at hk)
          rw [if_pos HG.out] at hk
          exact ⟨p + 1, A', m2, c', by go_num, by omega, by rw [hk]; obtain ⟨_, _, hv⟩ := M2.out; injection hv, by rw [hk]; exact WN.out, RN.out.set HA.out.ng 4 _⟩
        case measure => simp [intOf]; omega
      · have e1 : (yt == xt) = false := by simpa using g1
        have HG := Lib.hid g1
        clear g1
        go_wp2_with fail
        rw [← HW1.out]
        go_region_held3 (fun w' => w'.cell? ⟨wr.heap.size, 0, none⟩ = some (.int .i64 yt) ∧ w'.cell? ⟨g, 3, none⟩ = some (.int .i64 xt)) (first | exact ⟨hct, k3⟩ | fail) (fail)
        go_wp2
        go_roundw
        case rel =>
          have hk := HTK.out
          (try dsimp only at hk)
          rw [if_neg HG.out] at hk
          exact ⟨p + 1, A', m', c', by go_num, by omega, by rw [hk]; exact HM'.out, by rw [hk]; exact WD.out, RD.out⟩
        case measure => simp [intOf]; omega
    · obtain rfl : p = n := by omega
      have hd : decide ((p : Int) < (p : Int)) = false := by simp
      have HE := Lib.hid (show seeL xt (l.take p) xr = seeL xt l xr by rw [List.take_of_length_le (by rw [← HN.out]; exact Nat.le_refl _)])
      go_wp2
      go_ret
      rw [HT.out.1, HT.out.2]
      rw [HE.out] at WA HM'
      exact ⟨by rw [HM'.out, ← HWAS.out]; rfl, ⟨_, WA.out⟩, R.out⟩
end Go.Proofs.Ythhpddiicnjmmaa

set_option linter.unusedVariables false
set_option linter.unusedSimpArgs false
set_option maxRecDepth 100000
namespace Go.Proofs.Ythhpddiicnjmmaa
open Go.RowKit

def Win.waits (x : Win) (kind mark : Int) : Bool := decide (kind = 2 ∧ mark = x.mark ∧ (x.state = 1 ∨ x.state = 2))

set_option maxHeartbeats 4000000 in
set_option maxRecDepth 100000 in
theorem winwaits_any {TA TB : Option Addr} {tn tc tm td : Nat} (g : Nat) (S : Nat → Prop) (x : Win) (lsn kind mark : Int) (w : World) (h : WinOwn w S g x) :
    Calls Try.prog 104 #[.pointer (some ⟨g, 0, none⟩), .agg #[.int .i64 lsn, .int .i64 kind, .slice TA tn tc, .slice TB tm td, .int .i64 mark]] w fun e w' => e = .returned (.bool (x.waits kind mark)) ∧ Below w.heap.size w w' := by
  obtain ⟨rv, h⟩ := h
  obtain ⟨c0, c1, c2, c3, c4, c5, c6, c7, c8, cz⟩ := h.blk.c9
  have hgl := h.lt
  clear h
  obtain ⟨xm, xa, xi, xt, xr, xc, xl, xn, xs⟩ := x
  dsimp only at c0 c1 c2 c3 c4 c5 c6 c7 c8
  obtain ⟨W, hW⟩ : ∃ W, W = w.alloc (.cells #[.int .i64 lsn, .int .i64 kind, .slice TA tn tc, .slice TB tm td, .int .i64 mark] 68) := ⟨_, rfl⟩
  have B1 := Lib.hid (show Below w.heap.size w W by rw [hW]; exact (Below.refl _ _).alloc (Nat.le_refl _) _)
  have q1 : W.cell? ⟨w.heap.size, 1, none⟩ = some (.int .i64 kind) := by rw [hW]; exact World.cell?_alloc_at _ _ _ _ rfl
  have q4 : W.cell? ⟨w.heap.size, 4, none⟩ = some (.int .i64 mark) := by rw [hW]; exact World.cell?_alloc_at _ _ _ _ rfl
  have k0 : W.cell? ⟨g, 0, none⟩ = some (.int .i64 xm) := (B1.out.cell hgl).trans c0
  have k8 : W.cell? ⟨g, 8, none⟩ = some (.int .i64 xs) := (B1.out.cell hgl).trans c8
  clear c0 c1 c2 c3 c4 c5 c6 c7 c8 cz
  have HW := Lib.hid hW
  clear hW
  have hcases : ¬ kind = 2 ∨ (kind = 2 ∧ ¬ mark = xm) ∨ (kind = 2 ∧ mark = xm ∧ xs = 1) ∨ (kind = 2 ∧ mark = xm ∧ ¬ xs = 1 ∧ xs = 2) ∨ (kind = 2 ∧ mark = xm ∧ ¬ xs = 1 ∧ ¬ xs = 2) := by omega
  rcases hcases with h1 | ⟨h1, h2⟩ | ⟨h1, h2, h3⟩ | ⟨h1, h2, h3, h4⟩ | ⟨h1, h2, h3, h4⟩
  · have HF := Lib.hid (show Win.waits ⟨xm, xa, xi, xt, xr, xc, xl, xn, xs⟩ kind mark = false from decide_eq_false (fun h => h1 h.1))
    have d1 : (kind == 2) = false := by simpa using h1
    have d1d : decide (kind = 2) = false := decide_eq_false h1
    clear h1
    go_enter Try.func104, Try.ntmps104
    go_wp2_with fail
    rw [← HW.out]
    go_quiet (fail)
    go_wp2
    go_ret
    rw [HF.out]
    exact ⟨rfl, below_drewN B1.out _⟩
  · have HF := Lib.hid (show Win.waits ⟨xm, xa, xi, xt, xr, xc, xl, xn, xs⟩ kind mark = false from decide_eq_false (fun h => h2 h.2.1))
    subst h1
    have d1 : (mark == xm) = false := by simpa using h2
    have d1d : decide (mark = xm) = false := decide_eq_false h2
    clear h2
    go_enter Try.func104, Try.ntmps104
    go_wp2_with fail
    rw [← HW.out]
    go_quiet (fail)
    go_wp2
    go_ret
    rw [HF.out]
    exact ⟨rfl, below_drewN B1.out _⟩
  · have HF := Lib.hid (show Win.waits ⟨xm, xa, xi, xt, xr, xc, xl, xn, xs⟩ kind mark = true from decide_eq_true ⟨h1, h2, .inl h3⟩)
    subst h1 h2 h3
    go_enter Try.func104, Try.ntmps104
    go_wp2_with fail
    rw [← HW.out]
    go_quiet (fail)
    go_wp2
    go_ret
    rw [HF.out]
    exact ⟨rfl, below_drewN B1.out _⟩
  · have HF := Lib.hid (show Win.waits ⟨xm, xa, xi, xt, xr, xc, xl, xn, xs⟩ kind mark = true from decide_eq_true ⟨h1, h2, .inr h4⟩)
    subst h1 h2 h4
    clear h3
    go_enter Try.func104, Try.ntmps104
    go_wp2_with fail
    rw [← HW.out]
    go_quiet (fail)
    go_wp2
    go_ret
    rw [HF.out]
    exact ⟨rfl, below_drewN B1.out _⟩
  · have HF := Lib.hid (show Win.waits ⟨xm, xa, xi, xt, xr, xc, xl, xn, xs⟩ kind mark = false from decide_eq_false (fun h => h.2.2.elim h3 h4))
    subst h1 h2
    have d1 : (xs == 1) = false := by simpa using h3
    have d1d : decide (xs = 1) = false := decide_eq_false h3
    have d2 : (xs == 2) = false := by simpa using h4
    have d2d : decide (xs = 2) = false := decide_eq_false h4
    clear h3 h4
    go_enter Try.func104, Try.ntmps104
    go_wp2_with fail
    rw [← HW.out]
    go_quiet (fail)
    go_wp2
    go_ret
    rw [HF.out]
    exact ⟨rfl, below_drewN B1.out _⟩
end Go.Proofs.Ythhpddiicnjmmaa

set_option linter.unusedVariables false
set_option linter.unusedSimpArgs false
set_option maxRecDepth 100000
namespace Go.Proofs.Ythhpddiicnjmmaa
open Go.RowKit

structure Itm where
  lsn : Int
  ops : List Opr
  notes : List Note

def opOf (lsn table : Int) (r : Row) : Opr := ⟨lsn, table, r.key, false, r.val⟩

def Win.highOk (x : Win) (mark lsn : Int) : Bool := decide (x.state = 4 ∧ mark = x.mark ∧ 1 ≤ lsn ∧ lsn ≤ 1099511627776)
def Win.tell (x : Win) (mark lsn : Int) : Itm := if x.highOk mark lsn = true then ⟨lsn, x.rows.map (opOf lsn x.table), [⟨2, x.id, 0, 0, 0, x.cursor, x.last⟩]⟩ else ⟨0, [], []⟩
def Win.told (x : Win) (mark lsn : Int) : Win := if x.highOk mark lsn = true then win0 x.n else x

/-- A value is an item. -/
def ItmIn (w : World) (T : Nat → Prop) (v : Value) (it : Itm) : Prop := ∃ A n c A2 n2 c2, v = .agg #[.int .i64 it.lsn, .slice A n c, .slice A2 n2 c2] ∧ IsSl oprRep w T A n it.ops ∧ IsSl noteRep w T A2 n2 it.notes

theorem IsSl.ofBlk1 {α : Type} {R : Rep α} {w : World} {T : Nat → Prop} {b : Nat} {cs : List Value} {a : α} (h : Blk w b cs) (hr : R.rel w T a cs) (hT : T b) : IsSl R w T (some ⟨b, 0, none⟩) 1 [a] :=
  ⟨rfl, [cs], Rows.single hr, fun _ => ⟨b, 0, rfl, hT, fun j u hu => by
    rw [Nat.zero_add]
    exact h.1 j u (by simpa using hu)⟩⟩

theorem note_wf {i c : Int} {b : Bool} (hi : I64 i) (hc : I64 c) : (⟨2, i, 0, 0, 0, c, b⟩ : Note).wf := by
  refine ⟨?_, hi, ?_, ?_, ?_, hc⟩ <;> (constructor <;> (dsimp only; omega))

theorem info_opr : (Try.prog.info? 71).map (fun i => (i.zero, i.size, i.bytes)) = some (some (.agg #[.int .i64 0, .int .i64 0, .int .i64 0, .bool false, .string ByteArray.empty]), 5, 48) := by kernel_rfl

set_option maxHeartbeats 8000000 in
set_option maxRecDepth 100000 in
theorem winhigh_no (g : Nat) (S : Nat → Prop) (x : Win) (mark lsn : Int) (w : World) (hS : ∀ k, S k → k < w.heap.size) (h : WinOwn w S g x) (hno : x.highOk mark lsn = false) :
    Calls Try.prog 135 #[.pointer (some ⟨g, 0, none⟩), .int .i64 mark, .int .i64 lsn] w fun e w' => e = .returned (.tuple #[.agg #[.int .i64 0, .slice none 0 0, .slice none 0 0], .bool false]) ∧ Below w.heap.size w w' := by
  obtain ⟨rv, h⟩ := h
  obtain ⟨c0, c1, c2, c3, c4, c5, c6, c7, c8, cz⟩ := h.blk.c9
  have hgl := h.lt
  clear h
  obtain ⟨xm, xa, xi, xt, xr, xc, xl, xn, xs⟩ := x
  dsimp only at c0 c1 c2 c3 c4 c5 c6 c7 c8
  have hcases : ¬ xs = 4 ∨ (xs = 4 ∧ ¬ mark = xm) ∨ (xs = 4 ∧ mark = xm ∧ lsn < 1) ∨ (xs = 4 ∧ mark = xm ∧ 1 ≤ lsn ∧ 1099511627776 < lsn) := by
    have := of_decide_eq_false hno
    dsimp only at this
    omega
  clear hno
  have r0 : (w.alloc (.cells #[.int .i64 0, .slice none 0 0, .slice none 0 0] 62)).cell? ⟨w.heap.size, 0, none⟩ = some (.int .i64 0) := World.cell?_alloc_at _ _ _ _ rfl
  have r1 : (w.alloc (.cells #[.int .i64 0, .slice none 0 0, .slice none 0 0] 62)).cell? ⟨w.heap.size, 1, none⟩ = some (.slice none 0 0) := World.cell?_alloc_at _ _ _ _ rfl
  have r2 : (w.alloc (.cells #[.int .i64 0, .slice none 0 0, .slice none 0 0] 62)).cell? ⟨w.heap.size, 2, none⟩ = some (.slice none 0 0) := World.cell?_alloc_at _ _ _ _ rfl
  rcases hcases with h1 | ⟨h1, h2⟩ | ⟨h1, h2, h3⟩ | ⟨h1, h2, h3, h4⟩
  · have d1 : (xs == 4) = false := by simpa using h1
    have d1n : (xs != 4) = true := by simpa using h1
    have d1d : decide (xs = 4) = false := decide_eq_false h1
    clear h1
    go_enter Try.func135, Try.ntmps135
    go_wp2_with fail
    refine bodyPost_ret (by simp [results, Try.results135, go_sem, r0, r1, r2]; try rfl) rfl ?_
    exact ⟨rfl, (Below.refl _ _).alloc (Nat.le_refl _) _⟩
  · subst h1
    have d1 : (mark == xm) = false := by simpa using h2
    have d1n : (mark != xm) = true := by simpa using h2
    have d1d : decide (mark = xm) = false := decide_eq_false h2
    clear h2
    go_enter Try.func135, Try.ntmps135
    go_wp2_with fail
    refine bodyPost_ret (by simp [results, Try.results135, go_sem, r0, r1, r2]; try rfl) rfl ?_
    exact ⟨rfl, (Below.refl _ _).alloc (Nat.le_refl _) _⟩
  · subst h1 h2
    have d1 : decide (lsn < 1) = true := decide_eq_true h3
    clear h3
    go_enter Try.func135, Try.ntmps135
    go_wp2_with fail
    refine bodyPost_ret (by simp [results, Try.results135, go_sem, r0, r1, r2]; try rfl) rfl ?_
    exact ⟨rfl, (Below.refl _ _).alloc (Nat.le_refl _) _⟩
  · subst h1 h2
    have d1 : decide (lsn < 1) = false := decide_eq_false (by omega)
    have d2 : decide (1099511627776 < lsn) = true := decide_eq_true h4
    clear h3 h4
    go_enter Try.func135, Try.ntmps135
    go_wp2_with fail
    refine bodyPost_ret (by simp [results, Try.results135, go_sem, r0, r1, r2]; try rfl) rfl ?_
    exact ⟨rfl, (Below.refl _ _).alloc (Nat.le_refl _) _⟩

theorem Own.sl {α : Type} {R : Rep α} {w : World} {base : Nat} {S : Nat → Prop} {e : TypeId} {A : Option Addr} {n c : Nat} {l : List α} (h : Own R w base S e (.slice A n c) l) : IsSl R w (fun _ => True) A n l := by
  obtain ⟨A', c', hv, _, _, sl⟩ := h.isSl (S' := fun _ => True) (fun _ _ => trivial) (fun _ _ _ => trivial)
  injection hv with h1 h2 h3
  subst h1 h2
  exact sl

set_option maxHeartbeats 8000000 in
set_option maxRecDepth 100000 in
theorem winhigh_ok (g : Nat) (S : Nat → Prop) (x : Win) (mark lsn : Int) (w : World) (hS : ∀ k, S k → k < w.heap.size) (h : WinOwn w S g x) (hok : x.highOk mark lsn = true) (hn : x.rows.length ≤ 100000) (hi : I64 x.id) (ht : I64 x.table) (hc : I64 x.cursor) :
    Calls Try.prog 135 #[.pointer (some ⟨g, 0, none⟩), .int .i64 mark, .int .i64 lsn] w fun e w' => ∃ v, e = .returned (.tuple #[v, .bool true]) ∧ ItmIn w' (fun k => w.heap.size ≤ k ∧ k < w'.heap.size) v (x.tell mark lsn) ∧ WinOwn w' S g (win0 x.n) ∧ Rest S w w' := by
  have HTELL := Lib.hid (show x.tell mark lsn = ⟨lsn, x.rows.map (opOf lsn x.table), [⟨2, x.id, 0, 0, 0, x.cursor, x.last⟩]⟩ from if_pos hok)
  obtain ⟨rv, h⟩ := h
  obtain ⟨xm, xa, xi, xt, xr, xc, xl, xn, xs⟩ := x
  obtain ⟨A0, c0', hrv⟩ := h.own.form
  dsimp only at hrv hn hi ht hc
  subst hrv
  obtain ⟨h1, h2, h3, h4⟩ := of_decide_eq_true hok
  (try dsimp only at h1 h2)
  subst h1 h2
  clear hok
  have d1 : decide (lsn < 1) = false := decide_eq_false (by omega)
  have d2 : decide (1099511627776 < lsn) = false := decide_eq_false (by omega)
  obtain ⟨nr, hnr⟩ : ∃ nr, nr = xr.length := ⟨_, rfl⟩
  have HWI := Lib.hid (show I64 xi ∧ I64 xt ∧ I64 xc ∧ I64 lsn from ⟨hi, ht, hc, by constructor <;> omega⟩)
  clear h3 h4 hi ht hc
  obtain ⟨W, hW⟩ : ∃ W, W = w.alloc (.cells #[.int .i64 0, .slice none 0 0, .slice none 0 0] 62) := ⟨_, rfl⟩
  have B1 := Lib.hid (show Below w.heap.size w W by rw [hW]; exact (Below.refl _ _).alloc (Nat.le_refl _) _)
  have WA := Lib.hid (h.below B1.out)
  have KR := Lib.hid (show Blk W w.heap.size [.int .i64 0, .slice none 0 0, .slice none 0 0] by rw [hW]; exact Blk.new rfl rfl)
  rw [← hnr] at WA hn
  have hgl := h.lt
  have HNR := Lib.hid hnr
  obtain ⟨q0, q1, q2, q3, q4, q5, q6, q7, q8, qz⟩ := h.blk.c9
  (try dsimp only at q4)
  rw [← hnr] at q4
  clear hnr h
  have HW := Lib.hid hW
  clear hW
  go_enter Try.func135, Try.ntmps135
  go_wp2_with fail
  rw [← HW.out]
  clear q0 q1 q2 q3 q4 q5 q6 q7 q8 qz
  have hgw : g < W.heap.size := Nat.lt_of_lt_of_le hgl B1.out.size
  obtain ⟨k0, k1, k2, k3, k4, k5, k6, k7, k8, kz⟩ := WA.out.blk.c9
  obtain ⟨i0, hi, hz0, hz1, hz2⟩ := info_parts info_opr
  have KG := Lib.hid (show ∀ r, rowOf (.slice A0 nr c0') = some r → r < W.heap.size from fun r hr => WA.out.own.row_lt hr)
  have hRs : w.heap.size < W.heap.size := KR.out.lt
  go_region
  · obtain ⟨V, hV⟩ : ∃ V, V = ((W.alloc (.cells #[.int .i64 2, .int .i64 xi, .int .i64 0, .int .i64 0, .int .i64 0, .int .i64 xc, .bool xl] 91)).alloc (.cells #[.int .i64 lsn, .slice none 0 0, .slice (some ⟨W.heap.size, 0, none⟩) 1 1] 62)).drew := ⟨_, rfl⟩
    have KN0 := Lib.hid (show Blk V (W.heap.size) [.int .i64 2, .int .i64 xi, .int .i64 0, .int .i64 0, .int .i64 0, .int .i64 xc, .bool xl] by rw [hV]; exact ((Blk.new rfl rfl).alloc _).drew)
    have KX0 := Lib.hid (show Blk V (W.heap.size + 1) [.int .i64 lsn, .slice none 0 0, .slice (some ⟨W.heap.size, 0, none⟩) 1 1] by rw [hV]; exact (Blk.new rfl (by simp)).drew)
    have BV0 := Lib.hid (show Below W.heap.size W V by rw [hV]; exact below_drewN (((Below.refl _ _).alloc (Nat.le_refl _) _).alloc (by simp) _) 1)
    have hXN : W.heap.size + 1 ≠ W.heap.size := by omega
    rw [← hV]
    clear hV
    obtain ⟨X, hX⟩ : ∃ X, X = W.heap.size + 1 := ⟨_, rfl⟩
    rw [← hX] at KX0 hXN ⊢
    obtain ⟨NB, hNB⟩ : ∃ NB, NB = W.heap.size := ⟨_, rfl⟩
    rw [← hNB] at KN0 KX0 hXN ⊢
    have hX1 : W.heap.size ≤ X := by omega
    have hN1 : W.heap.size ≤ NB := by omega
    clear hX hNB
    have hRs2 := hRs
    have WA1 := Lib.hid (WA.out.below BV0.out)
    have KR1 := Lib.hid (KR.out.after BV0.out)
    have BV := Lib.hid (B1.out.trans (BV0.out.mono (Nat.le_of_lt hRs)))
    have hXV : X < V.heap.size := KX0.out.lt
    have hNV : NB < V.heap.size := KN0.out.lt
    have hRV : w.heap.size < V.heap.size := KR1.out.lt
    have hgV : g < V.heap.size := WA1.out.lt
    have hXg : X ≠ g := by omega
    have hNg : NB ≠ g := by omega
    have hXR : X ≠ w.heap.size := by omega
    have hNR2 : NB ≠ w.heap.size := by omega
    have hRg : w.heap.size ≠ g := by omega
    have hXw : w.heap.size ≤ X := by omega
    have hNw : w.heap.size ≤ NB := by omega
    have HRV := Lib.hid (show ∀ r, rowOf (.slice A0 nr c0') = some r → r < V.heap.size ∧ r ≠ X from fun r hr => by have := KG.out r hr; omega)
    obtain ⟨B0, hB0⟩ : ∃ B0, B0 = V.heap.size := ⟨_, rfl⟩
    rw [← hB0] at hXV hNV hRV hgV HRV
    have HB0 := Lib.hid hB0
    obtain ⟨k0, k1, k2, k3, k4, k5, k6, k7, k8, kz⟩ := WA1.out.blk.c9
    obtain ⟨x0, x1, x2, xz⟩ := KX0.out.c3
    clear hB0 hX1 hN1 hgw hRs2
    go_wp2_with fail
    go_loopw [59] (fun i wr => ∃ (p : Nat) (v2 : Value), i = .int .i64 p ∧ p ≤ nr ∧ Own oprRep wr B0 (fun _ => False) 71 v2 ((xr.take p).map (opOf lsn xt)) ∧ Blk wr X [.int .i64 lsn, v2, .slice (some ⟨NB, 0, none⟩) 1 1] ∧ Blk wr NB [.int .i64 2, .int .i64 xi, .int .i64 0, .int .i64 0, .int .i64 0, .int .i64 xc, .bool xl] ∧ Blk wr w.heap.size [.int .i64 0, .slice none 0 0, .slice none 0 0] ∧ WinAt wr S g ⟨mark, xa, xi, xt, xr, xc, xl, xn, 4⟩ (.slice A0 nr c0') ∧ Below w.heap.size w wr ∧ B0 ≤ wr.heap.size) (fun i _ => nr - (intOf i).toNat)
    case atStart => exact ⟨0, _, rfl, Nat.zero_le _, Own.nil _ _ _ (fun _ h => h.elim) _ none, KX0.out, KN0.out, KR1.out, WA1.out, BV.out, Nat.le_of_eq HB0.out⟩
    case round =>
      obtain ⟨p, v2, rfl, hp, hown, hkx, hkn, hkr, hwa, hbel, hsz⟩ := hrel
      have OW := Lib.hid hown
      have KX := Lib.hid hkx
      have KN := Lib.hid hkn
      have KRr := Lib.hid hkr
      have WAr := Lib.hid hwa
      have BE := Lib.hid hbel
      have HR2 := Lib.hid (show ∀ r, rowOf v2 = some r → B0 ≤ r from fun r hr => OW.out.row_ge hr)
      obtain ⟨x0, x1, x2, xz⟩ := KX.out.c3
      obtain ⟨k0, k1, k2, k3, k4, k5, k6, k7, k8, kz⟩ := WAr.out.blk.c9
      clear hown hkx hkn hkr hwa hbel
      by_cases hlt : p < nr
      · have hd : decide ((p : Int) < (nr : Int)) = true := decide_eq_true (by omega)
        have hpi : (p : Int) < (nr : Int) := by omega
        obtain ⟨b0, off, y, rfl, -, hy, hwf, e0, e1⟩ := WAr.out.own.sl.row hlt (fun _ _ => rfl)
        have HTK := Lib.hid (show (xr.take (p + 1)).map (opOf lsn xt) = (xr.take p).map (opOf lsn xt) ++ [opOf lsn xt y] by rw [take_snoc hy, List.map_append]; rfl)
        have HWF := Lib.hid (show (opOf lsn xt y).wf from ⟨HWI.out.2.2.2, HWI.out.2.1, hwf.1, hwf.2⟩)
        have HLE := Lib.hid (show ((xr.take p).map (opOf lsn xt)).length ≤ 100000 by rw [List.length_map, List.length_take, ← HNR.out]; omega)
        obtain ⟨yk, yv⟩ := y
        dsimp only at e0 e1
        clear hwf hy
        obtain ⟨acc, hacc⟩ : ∃ acc, acc = (xr.take p).map (opOf lsn xt) := ⟨_, rfl⟩
        rw [← hacc] at OW HTK HLE
        clear hacc
        have hle := HLE.out
        have hXr : X < wr.heap.size := by omega
        go_wp2_with fail
        obtain ⟨W1, hW1⟩ : ∃ W1, W1 = wr.alloc (.cells #[.int .i64 yk, .string yv] 80) := ⟨_, rfl⟩
        have b1 : Below wr.heap.size wr W1 := by rw [hW1]; exact (Below.refl _ _).alloc (Nat.le_refl _) _
        have OWD := Lib.hid (OW.out.below b1).drew
        have KXD := Lib.hid (KX.out.after b1).drew
        have KND := Lib.hid (KN.out.after b1).drew
        have KRD := Lib.hid (KRr.out.after b1).drew
        have WAD := Lib.hid (WAr.out.below b1).drew
        have BED := Lib.hid (below_drewN (BE.out.trans (b1.mono BE.out.size)) 1)
        have hW1s : W1.heap.size = wr.heap.size + 1 := by rw [hW1]; simp
        have j0 : W1.cell? ⟨wr.heap.size, 0, none⟩ = some (.int .i64 yk) := by rw [hW1]; exact World.cell?_alloc_at _ _ _ _ rfl
        have j1 : W1.cell? ⟨wr.heap.size, 1, none⟩ = some (.string yv) := by rw [hW1]; exact World.cell?_alloc_at _ _ _ _ rfl
        have BRR : Blk W1 wr.heap.size [.int .i64 yk, .string yv] := by rw [hW1]; exact Blk.new rfl rfl
        rw [← hW1]
        clear hW1 b1
        obtain ⟨k0, k1, k2, k3, k4, k5, k6, k7, k8, kz⟩ := (show Blk W1 g _ from WAD.out.blk).c9
        obtain ⟨x0, x1, x2, xz⟩ := (show Blk W1 X _ from KXD.out).c3
        dsimp only at k0 k1 k2 k3 k4 k5 k6 k7 k8
        have hXW1 : X < W1.drew.heap.size := KXD.out.lt
        have hsz1 : B0 ≤ W1.drew.heap.size := by show B0 ≤ W1.heap.size; omega
        have hsz2 : wr.heap.size < W1.heap.size := by omega
        clear hW1s
        have KRR := Lib.hid (show Blk W1.drew wr.heap.size [.int .i64 yk, .string yv] from BRR)
        have HRL := Lib.hid (show ∀ r, rowOf v2 = some r → r < wr.heap.size from fun r hr => OW.out.row_lt hr)
        have hA : ∀ o : Obj, (W1.alloc o).cell? ⟨g, 3, none⟩ = some (.int .i64 xt) ∧ (W1.alloc o).cell? ⟨wr.heap.size, 0, none⟩ = some (.int .i64 yk) ∧ (W1.alloc o).cell? ⟨wr.heap.size, 1, none⟩ = some (.string yv) := fun o => ⟨(WAD.out.blk.alloc o).1 3 _ rfl, (KRR.out.alloc o).1 0 _ rfl, (KRR.out.alloc o).1 1 _ rfl⟩
        have hX1 : ∀ o : Obj, (W1.alloc o).cell? ⟨X, 1, none⟩ = some v2 := fun o => (KXD.out.alloc o).1 1 _ rfl
        have HSRC := Lib.hid (show Src oprRep (W1.drew.alloc (.cells #[.int .i64 lsn, .int .i64 xt, .int .i64 yk, .bool false, .string yv] 71)) (fun _ => False) (some ⟨W1.heap.size, 0, none⟩) 1 [opOf lsn xt ⟨yk, yv⟩] from Src.new (R := oprRep) (w := W1.drew) (e := 71) (S := fun _ => False) (a := opOf lsn xt ⟨yk, yv⟩) (cs := (opOf lsn xt ⟨yk, yv⟩).cells) ⟨rfl, HWF.out⟩)
        clear BRR
        refine wp_region_held_drew (S := fun w' => w'.cell? ⟨g, 3, none⟩ = some (.int .i64 xt) ∧ w'.cell? ⟨wr.heap.size, 0, none⟩ = some (.int .i64 yk) ∧ w'.cell? ⟨wr.heap.size, 1, none⟩ = some (.string yv)) (by kernel_rfl) ⟨k3, j0, j1⟩ (fun hHeld => ?_)
        (refine wpAnyH_take (i := 0) (v := ?_) rfl (by kernel_rfl) (by kernel_rfl) (by kernel_rfl) (fun _ _ _ h => h) (Or.inl ⟨by rfl, ?_⟩) hHeld ?_; rotate_left 1; focus (intro w hSw; (try dsimp only at hSw); go_simp; try with_reducible rfl)); (try simp only [Act.put, List.setIfInBounds_toArray, List.set_cons_zero, List.set_cons_succ])
        (refine wpAnyH_take (i := 2) (v := ?_) rfl (by kernel_rfl) (by kernel_rfl) (by kernel_rfl) (fun _ _ _ h => h) (Or.inl ⟨by rfl, ?_⟩) hHeld ?_; rotate_left 1; focus (intro w hSw; (try dsimp only at hSw); go_simp; try with_reducible rfl)); (try simp only [Act.put, List.setIfInBounds_toArray, List.set_cons_zero, List.set_cons_succ])
        (refine wpAnyH_take (i := 3) (v := ?_) rfl (by kernel_rfl) (by kernel_rfl) (by kernel_rfl) (fun _ _ _ h => h) (Or.inl ⟨by rfl, ?_⟩) hHeld ?_; rotate_left 1; focus (intro w hSw; (try dsimp only at hSw); go_simp; try with_reducible rfl)); (try simp only [Act.put, List.setIfInBounds_toArray, List.set_cons_zero, List.set_cons_succ])
        (refine wpAnyH_take (i := 4) (v := ?_) rfl (by kernel_rfl) (by kernel_rfl) (by kernel_rfl) (fun _ _ _ h => h) (Or.inl ⟨by rfl, ?_⟩) hHeld ?_; rotate_left 1; focus (intro w hSw; (try dsimp only at hSw); go_simp; try with_reducible rfl)); (try simp only [Act.put, List.setIfInBounds_toArray, List.set_cons_zero, List.set_cons_succ])
        (refine wpAnyH_take (i := 5) (v := ?_) rfl (by kernel_rfl) (by kernel_rfl) (by kernel_rfl) (fun _ _ _ h => h) (Or.inl ⟨by rfl, ?_⟩) hHeld ?_; rotate_left 1; focus (intro w hSw; (try dsimp only at hSw); go_simp; try with_reducible rfl)); (try simp only [Act.put, List.setIfInBounds_toArray, List.set_cons_zero, List.set_cons_succ])
        (refine wpAnyH_take (i := 6) (v := ?_) rfl (by kernel_rfl) (by kernel_rfl) (by kernel_rfl) (fun _ _ _ h => h) (Or.inl ⟨by rfl, ?_⟩) hHeld ?_; rotate_left 1; focus (intro w hSw; (try dsimp only at hSw); go_simp; try with_reducible rfl)); (try simp only [Act.put, List.setIfInBounds_toArray, List.set_cons_zero, List.set_cons_succ])
        (refine wpAnyH_take (i := 7) (v := ?_) rfl (by kernel_rfl) (by kernel_rfl) (by kernel_rfl) (fun _ _ _ h => h) (Or.inl ⟨by rfl, ?_⟩) hHeld ?_; rotate_left 1; focus (intro w hSw; (try dsimp only at hSw); go_simp; try with_reducible rfl)); (try simp only [Act.put, List.setIfInBounds_toArray, List.set_cons_zero, List.set_cons_succ])
        (refine wpAnyH_take (i := 8) (v := ?_) rfl (by kernel_rfl) (by kernel_rfl) (by kernel_rfl) (fun _ _ _ h => h) (Or.inl ⟨by rfl, ?_⟩) hHeld ?_; rotate_left 1; focus (intro w hSw; (try dsimp only at hSw); go_simp; try with_reducible rfl)); (try simp only [Act.put, List.setIfInBounds_toArray, List.set_cons_zero, List.set_cons_succ])
        (refine wpAnyH_take (i := 9) (v := ?_) rfl (by kernel_rfl) (by kernel_rfl) (by kernel_rfl) (fun _ _ _ h => h) (Or.inl ⟨by rfl, ?_⟩) hHeld ?_; rotate_left 1; focus (intro w hSw; (try dsimp only at hSw); go_simp; try with_reducible rfl)); (try simp only [Act.put, List.setIfInBounds_toArray, List.set_cons_zero, List.set_cons_succ])
        (refine wpAnyH_take (i := 10) (v := ?_) rfl (by kernel_rfl) (by kernel_rfl) (by kernel_rfl) (fun _ _ _ h => h) (Or.inl ⟨by rfl, ?_⟩) hHeld ?_; rotate_left 1; focus (intro w hSw; (try dsimp only at hSw); go_simp; try with_reducible rfl)); (try simp only [Act.put, List.setIfInBounds_toArray, List.set_cons_zero, List.set_cons_succ])
        (refine wpAnyH_take (i := 11) (v := ?_) rfl (by kernel_rfl) (by kernel_rfl) (by kernel_rfl) (fun _ _ _ h => h) (Or.inl ⟨by rfl, ?_⟩) hHeld ?_; rotate_left 1; focus (intro w hSw; (try dsimp only at hSw); go_simp; try with_reducible rfl)); (try simp only [Act.put, List.setIfInBounds_toArray, List.set_cons_zero, List.set_cons_succ])
        (refine wpAnyH_take (i := 12) (v := ?_) rfl (by kernel_rfl) (by kernel_rfl) (by kernel_rfl) (fun _ _ _ h => h) (Or.inl ⟨by rfl, ?_⟩) hHeld ?_; rotate_left 1; focus (intro w hSw; (try dsimp only at hSw); go_simp; try with_reducible rfl)); (try simp only [Act.put, List.setIfInBounds_toArray, List.set_cons_zero, List.set_cons_succ])
        refine wpAnyH_ready (rs := [1, 13]) (by kernel_rfl) (by simp) ?_
        refine AllReadyH.cons rfl (fun K hK => ?_) (AllReadyH.cons rfl (fun K hK => ?_) AllReadyH.nil)
        · go_simp
          refine hK.out _ _ hHeld (fun _ => ?_)
          clear hK K
          refine wpAnyH_ready (rs := [13]) (by kernel_rfl) (by simp) ?_
          refine AllReadyH.cons rfl (fun K hK => ?_) AllReadyH.nil
          go_simp
          refine hK.out _ _ (hA _) (fun _ => ?_)
          clear hK K
          refine wpAnyH_ready (rs := [14]) (by kernel_rfl) (by simp) ?_
          refine AllReadyH.cons rfl (fun K hK => ?_) AllReadyH.nil
          refine step_append_Own (w := W1.drew.alloc (.cells #[.int .i64 lsn, .int .i64 xt, .int .i64 yk, .bool false, .string yv] 71)) rfl (.tmp 64) (.tmp 76) 59 rfl B0 71 i0 _ 48 Try.underlying59 hi hz0 hz1 hz2 rfl (R := oprRep) (S := fun _ => False) (l := acc) (l' := [opOf lsn xt ⟨yk, yv⟩]) v2 rfl (OWD.out.alloc _) _ 1 1 rfl HSRC.out (by simp only [maxLen]; omega) (by omega) (by omega) (by simp; omega) ?_
          intro v9 w9 own9 gr9 at9
          obtain ⟨A9, c9, hv9, hlc9, hcm9, sl9⟩ := own9.isSlB
          obtain ⟨m9, hm9⟩ : ∃ m9, m9 = (acc ++ [opOf lsn xt ⟨yk, yv⟩]).length := ⟨_, rfl⟩
          rw [← hm9] at hv9
          subst hv9
          clear hm9 hlc9 hcm9 sl9
          have KX9 := Lib.hid ((KXD.out.alloc _).grown gr9 (fun k hk e => by have := HR2.out k hk; omega))
          have KN9 := Lib.hid ((KND.out.alloc _).grown gr9 (fun k hk e => by have := HR2.out k hk; omega))
          have KR9 := Lib.hid ((KRD.out.alloc _).grown gr9 (fun k hk e => by have := HR2.out k hk; omega))
          have KRR9 := Lib.hid ((KRR.out.alloc _).grown gr9 (fun k hk e => by have := HRL.out k hk; omega))
          have WA9 := Lib.hid ((WAD.out.alloc _).grown gr9 (fun k hk => ⟨fun e => by have := HR2.out k hk; omega, fun e => by have h1 := HR2.out k hk; have h2 := (HRV.out k e).1; omega⟩))
          have BE9 := Lib.hid ((BED.out.alloc BED.out.size _).grown gr9 (by have h9 := BED.out.size; simp at h9 ⊢; omega) (fun k hk => by have := HR2.out k hk; omega))
          have OW9 := Lib.hid own9
          have hs9 : B0 ≤ w9.heap.size := by have h9 := gr9.size; have h8 := hsz1; simp at h9 h8; omega
          clear own9 gr9 at9
          obtain ⟨x0, x1, x2, xz⟩ := KX9.out.c3
          refine hK.out _ _ ⟨WA9.out.blk.1 3 _ rfl, KRR9.out.1 0 _ rfl, KRR9.out.1 1 _ rfl⟩ (fun hHeld9 => ?_)
          clear hK K
          (refine wpAnyH_take (i := 15) (v := ?_) rfl (by kernel_rfl) (by kernel_rfl) (by kernel_rfl) (fun _ _ _ h => h) (Or.inl ⟨by rfl, ?_⟩) hHeld9 ?_; rotate_left 1; focus (intro w hSw; (try dsimp only at hSw); go_simp; try with_reducible rfl)); (try simp only [Act.put, List.setIfInBounds_toArray, List.set_cons_zero, List.set_cons_succ])
          refine wpAnyH_ready (rs := [16]) (by kernel_rfl) (by simp) ?_
          refine AllReadyH.cons rfl (fun K hK => ?_) AllReadyH.nil
          go_simp
          refine hK.out _ _ ⟨(WA9.out.blk.other (Ne.symm hXg) 1 _).1 3 _ rfl, (KRR9.out.other (by omega) 1 _).1 0 _ rfl, (KRR9.out.other (by omega) 1 _).1 1 _ rfl⟩ (fun _ => ?_)
          clear hK K
          refine wpAnyH_done (by kernel_rfl) ?_ _
          go_wp2_with fail
          go_roundw
          case rel => exact ⟨p + 1, .slice A9 m9 c9, by go_num, by omega, by rw [HTK.out]; exact OW9.out.kept (grownBy_set w9 ⟨X, 1, none⟩ _) (fun k hk => ⟨fun e => (by have h1 := OW9.out.row_ge e; injection hk with hk; dsimp only at hk; omega), id⟩), KX9.out.put (by simp) _ rfl, KN9.out.other (Ne.symm hXN) 1 _, KR9.out.other (Ne.symm hXR) 1 _, WA9.out.grown (grownBy_set w9 ⟨X, 1, none⟩ _) (fun k hk => by injection hk with hk; dsimp only at hk; subst hk; exact ⟨hXg, fun e => (HRV.out X e).2 rfl⟩), BE9.out.setCell hXw _, by simpa using hs9⟩
          case measure => simp [intOf]; omega
        · go_simp
          refine hK.out _ _ (hA _) (fun _ => ?_)
          clear hK K
          refine wpAnyH_ready (rs := [1]) (by kernel_rfl) (by simp) ?_
          refine AllReadyH.cons rfl (fun K hK => ?_) AllReadyH.nil
          go_simp
          refine hK.out _ _ (hA _) (fun _ => ?_)
          clear hK K
          refine wpAnyH_ready (rs := [14]) (by kernel_rfl) (by simp) ?_
          refine AllReadyH.cons rfl (fun K hK => ?_) AllReadyH.nil
          refine step_append_Own (w := W1.drew.alloc (.cells #[.int .i64 lsn, .int .i64 xt, .int .i64 yk, .bool false, .string yv] 71)) rfl (.tmp 64) (.tmp 76) 59 rfl B0 71 i0 _ 48 Try.underlying59 hi hz0 hz1 hz2 rfl (R := oprRep) (S := fun _ => False) (l := acc) (l' := [opOf lsn xt ⟨yk, yv⟩]) v2 rfl (OWD.out.alloc _) _ 1 1 rfl HSRC.out (by simp only [maxLen]; omega) (by omega) (by omega) (by simp; omega) ?_
          intro v9 w9 own9 gr9 at9
          obtain ⟨A9, c9, hv9, hlc9, hcm9, sl9⟩ := own9.isSlB
          obtain ⟨m9, hm9⟩ : ∃ m9, m9 = (acc ++ [opOf lsn xt ⟨yk, yv⟩]).length := ⟨_, rfl⟩
          rw [← hm9] at hv9
          subst hv9
          clear hm9 hlc9 hcm9 sl9
          have KX9 := Lib.hid ((KXD.out.alloc _).grown gr9 (fun k hk e => by have := HR2.out k hk; omega))
          have KN9 := Lib.hid ((KND.out.alloc _).grown gr9 (fun k hk e => by have := HR2.out k hk; omega))
          have KR9 := Lib.hid ((KRD.out.alloc _).grown gr9 (fun k hk e => by have := HR2.out k hk; omega))
          have KRR9 := Lib.hid ((KRR.out.alloc _).grown gr9 (fun k hk e => by have := HRL.out k hk; omega))
          have WA9 := Lib.hid ((WAD.out.alloc _).grown gr9 (fun k hk => ⟨fun e => by have := HR2.out k hk; omega, fun e => by have h1 := HR2.out k hk; have h2 := (HRV.out k e).1; omega⟩))
          have BE9 := Lib.hid ((BED.out.alloc BED.out.size _).grown gr9 (by have h9 := BED.out.size; simp at h9 ⊢; omega) (fun k hk => by have := HR2.out k hk; omega))
          have OW9 := Lib.hid own9
          have hs9 : B0 ≤ w9.heap.size := by have h9 := gr9.size; have h8 := hsz1; simp at h9 h8; omega
          clear own9 gr9 at9
          obtain ⟨x0, x1, x2, xz⟩ := KX9.out.c3
          refine hK.out _ _ ⟨WA9.out.blk.1 3 _ rfl, KRR9.out.1 0 _ rfl, KRR9.out.1 1 _ rfl⟩ (fun hHeld9 => ?_)
          clear hK K
          (refine wpAnyH_take (i := 15) (v := ?_) rfl (by kernel_rfl) (by kernel_rfl) (by kernel_rfl) (fun _ _ _ h => h) (Or.inl ⟨by rfl, ?_⟩) hHeld9 ?_; rotate_left 1; focus (intro w hSw; (try dsimp only at hSw); go_simp; try with_reducible rfl)); (try simp only [Act.put, List.setIfInBounds_toArray, List.set_cons_zero, List.set_cons_succ])
          refine wpAnyH_ready (rs := [16]) (by kernel_rfl) (by simp) ?_
          refine AllReadyH.cons rfl (fun K hK => ?_) AllReadyH.nil
          go_simp
          refine hK.out _ _ ⟨(WA9.out.blk.other (Ne.symm hXg) 1 _).1 3 _ rfl, (KRR9.out.other (by omega) 1 _).1 0 _ rfl, (KRR9.out.other (by omega) 1 _).1 1 _ rfl⟩ (fun _ => ?_)
          clear hK K
          refine wpAnyH_done (by kernel_rfl) ?_ _
          go_wp2_with fail
          go_roundw
          case rel => exact ⟨p + 1, .slice A9 m9 c9, by go_num, by omega, by rw [HTK.out]; exact OW9.out.kept (grownBy_set w9 ⟨X, 1, none⟩ _) (fun k hk => ⟨fun e => (by have h1 := OW9.out.row_ge e; injection hk with hk; dsimp only at hk; omega), id⟩), KX9.out.put (by simp) _ rfl, KN9.out.other (Ne.symm hXN) 1 _, KR9.out.other (Ne.symm hXR) 1 _, WA9.out.grown (grownBy_set w9 ⟨X, 1, none⟩ _) (fun k hk => by injection hk with hk; dsimp only at hk; subst hk; exact ⟨hXg, fun e => (HRV.out X e).2 rfl⟩), BE9.out.setCell hXw _, by simpa using hs9⟩
          case measure => simp [intOf]; omega
      · obtain rfl : p = nr := by omega
        have hd : decide ((p : Int) < (p : Int)) = false := by simp
        obtain ⟨Av, cv, hv2, _, _, _⟩ := OW.out.isSlB
        obtain ⟨mv, hmv⟩ : ∃ mv, mv = ((xr.take p).map (opOf lsn xt)).length := ⟨_, rfl⟩
        rw [← hmv] at hv2
        subst hv2
        clear hmv
        obtain ⟨r0, r1, r2, rz⟩ := KRr.out.c3
        have hgX : g ≠ X := Ne.symm hXg
        have hgR : g ≠ w.heap.size := Ne.symm hRg
        have hRX : w.heap.size ≠ X := Ne.symm hXR
        have HNC := Lib.hid (show (xr.take p).map (opOf lsn xt) = xr.map (opOf lsn xt) by rw [List.take_of_length_le (by rw [← HNR.out]; exact Nat.le_refl _)])
        have SLO := Lib.hid (OW.out.isSl (S' := fun k => B0 ≤ k ∧ k < wr.heap.size) (fun _ h => h.elim) (fun k h1 h2 => ⟨h1, h2⟩))
        iterate 63 (first | go_values | go_skip | go_guarded | go_step | go_upon | go_back)
        obtain ⟨Z, hZ⟩ : ∃ Z, Z = ((((((((((wr.setCell ⟨g, 0, none⟩ (.int .i64 0)).setCell ⟨g, 1, none⟩ (.int .i64 0)).setCell ⟨g, 2, none⟩ (.int .i64 0)).setCell ⟨g, 3, none⟩ (.int .i64 0)).setCell ⟨g, 4, none⟩ (.slice none 0 0)).setCell ⟨g, 5, none⟩ (.int .i64 0)).setCell ⟨g, 6, none⟩ (.bool false)).setCell ⟨g, 8, none⟩ (.int .i64 0)).setCell ⟨w.heap.size, 0, none⟩ (.int .i64 lsn)).setCell ⟨w.heap.size, 1, none⟩ (.slice Av mv cv)).setCell ⟨w.heap.size, 2, none⟩ (.slice (some ⟨NB, 0, none⟩) 1 1) := ⟨_, rfl⟩
        have KRz := Lib.hid (show Blk Z w.heap.size [.int .i64 lsn, .slice Av mv cv, .slice (some ⟨NB, 0, none⟩) 1 1] by
          rw [hZ]
          exact (((((((((((KRr.out.other hRg 0 _).other hRg 1 _).other hRg 2 _).other hRg 3 _).other hRg 4 _).other hRg 5 _).other hRg 6 _).other hRg 8 _).put (j := 0) (by simp) _ rfl).put (j := 1) (by simp) _ rfl).put (j := 2) (by simp) _ rfl))
        have KGz := Lib.hid (show Blk Z g [.int .i64 0, .int .i64 0, .int .i64 0, .int .i64 0, .slice none 0 0, .int .i64 0, .bool false, .int .i64 xn, .int .i64 0] by
          rw [hZ]
          exact ((((((((((WAr.out.blk.put (j := 0) (by simp) _ rfl).put (j := 1) (by simp) _ rfl).put (j := 2) (by simp) _ rfl).put (j := 3) (by simp) _ rfl).put (j := 4) (by simp) _ rfl).put (j := 5) (by simp) _ rfl).put (j := 6) (by simp) _ rfl).put (j := 8) (by simp) _ rfl).other hgR 0 _).other hgR 1 _).other hgR 2 _)
        have RZ := Lib.hid (show Rest (fun k => k ≠ g ∧ k ≠ w.heap.size) wr Z by
          rw [hZ]
          have hG : ¬ (g ≠ g ∧ g ≠ w.heap.size) := fun h => h.1 rfl
          have hR : ¬ (w.heap.size ≠ g ∧ w.heap.size ≠ w.heap.size) := fun h => h.2 rfl
          exact ((((((((((((Rest.refl _ wr).set hG 0 _).set hG 1 _).set hG 2 _).set hG 3 _).set hG 4 _).set hG 5 _).set hG 6 _).set hG 8 _).set hR 0 _).set hR 1 _).set hR 2 _))
        have SZ := Lib.hid (show Rest S w Z by
          rw [hZ]
          have hG : ¬ S g := WAr.out.ng
          have hR : ¬ S w.heap.size := fun h => Nat.lt_irrefl _ (hS _ h)
          exact (((((((((((((Rest.refl S w).below hS BE.out).set hG 0 _).set hG 1 _).set hG 2 _).set hG 3 _).set hG 4 _).set hG 5 _).set hG 6 _).set hG 8 _).set hR 0 _).set hR 1 _).set hR 2 _))
        obtain ⟨z0, z1, z2, zz⟩ := KRz.out.c3
        rw [← hZ]
        clear hZ r0 r1 r2 rz x0 x1 x2 xz k0 k1 k2 k3 k4 k5 k6 k7 k8 kz
        go_wp2_with fail
        refine bodyPost_ret (by simp [results, Try.results135, go_sem, z0, z1, z2]; try rfl) rfl ?_
        obtain ⟨A9, c9, hv9, _, _, sl9⟩ := SLO.out
        injection hv9 with q1 q2 q3
        subst q1
        have hws := BE.out.size
        have hwz := RZ.out.size
        rw [← q2, HNC.out] at sl9
        refine ⟨_, rfl, ⟨_, _, _, _, _, _, by rw [HTELL.out], ?_, ?_⟩, ⟨_, KGz.out, Own.nil _ _ _ (fun _ h => h.elim) _ none, WAr.out.ng, fun r hr => by simp [rowOf] at hr⟩, SZ.out⟩
        · rw [HTELL.out]
          exact (sl9.rest RZ.out (fun k hk => ⟨by omega, by omega⟩)).weak (fun k hk => ⟨by omega, by omega⟩)
        · rw [HTELL.out]
          exact IsSl.ofBlk1 (KN.out.rest RZ.out ⟨hNg, hNR2⟩) ⟨rfl, note_wf HWI.out.1 HWI.out.2.2.1⟩ ⟨hNw, by have := (KN.out.rest RZ.out ⟨hNg, hNR2⟩).lt; exact this⟩
  · obtain ⟨V, hV⟩ : ∃ V, V = ((W.alloc (.cells #[.int .i64 lsn, .slice none 0 0, .slice (some ⟨W.heap.size + 1, 0, none⟩) 1 1] 62)).alloc (.cells #[.int .i64 2, .int .i64 xi, .int .i64 0, .int .i64 0, .int .i64 0, .int .i64 xc, .bool xl] 91)).drew := ⟨_, rfl⟩
    have KN0 := Lib.hid (show Blk V (W.heap.size + 1) [.int .i64 2, .int .i64 xi, .int .i64 0, .int .i64 0, .int .i64 0, .int .i64 xc, .bool xl] by rw [hV]; exact (Blk.new rfl (by simp)).drew)
    have KX0 := Lib.hid (show Blk V (W.heap.size) [.int .i64 lsn, .slice none 0 0, .slice (some ⟨W.heap.size + 1, 0, none⟩) 1 1] by rw [hV]; exact ((Blk.new rfl rfl).alloc _).drew)
    have BV0 := Lib.hid (show Below W.heap.size W V by rw [hV]; exact below_drewN (((Below.refl _ _).alloc (Nat.le_refl _) _).alloc (by simp) _) 1)
    have hXN : W.heap.size ≠ W.heap.size + 1 := by omega
    rw [← hV]
    clear hV
    obtain ⟨NB, hNB⟩ : ∃ NB, NB = W.heap.size + 1 := ⟨_, rfl⟩
    rw [← hNB] at KX0 KN0 hXN ⊢
    obtain ⟨X, hX⟩ : ∃ X, X = W.heap.size := ⟨_, rfl⟩
    rw [← hX] at KX0 hXN ⊢
    have hX1 : W.heap.size ≤ X := by omega
    have hN1 : W.heap.size ≤ NB := by omega
    clear hX hNB
    have hRs2 := hRs
    have WA1 := Lib.hid (WA.out.below BV0.out)
    have KR1 := Lib.hid (KR.out.after BV0.out)
    have BV := Lib.hid (B1.out.trans (BV0.out.mono (Nat.le_of_lt hRs)))
    have hXV : X < V.heap.size := KX0.out.lt
    have hNV : NB < V.heap.size := KN0.out.lt
    have hRV : w.heap.size < V.heap.size := KR1.out.lt
    have hgV : g < V.heap.size := WA1.out.lt
    have hXg : X ≠ g := by omega
    have hNg : NB ≠ g := by omega
    have hXR : X ≠ w.heap.size := by omega
    have hNR2 : NB ≠ w.heap.size := by omega
    have hRg : w.heap.size ≠ g := by omega
    have hXw : w.heap.size ≤ X := by omega
    have hNw : w.heap.size ≤ NB := by omega
    have HRV := Lib.hid (show ∀ r, rowOf (.slice A0 nr c0') = some r → r < V.heap.size ∧ r ≠ X from fun r hr => by have := KG.out r hr; omega)
    obtain ⟨B0, hB0⟩ : ∃ B0, B0 = V.heap.size := ⟨_, rfl⟩
    rw [← hB0] at hXV hNV hRV hgV HRV
    have HB0 := Lib.hid hB0
    obtain ⟨k0, k1, k2, k3, k4, k5, k6, k7, k8, kz⟩ := WA1.out.blk.c9
    obtain ⟨x0, x1, x2, xz⟩ := KX0.out.c3
    clear hB0 hX1 hN1 hgw hRs2
    go_wp2_with fail
    go_loopw [59] (fun i wr => ∃ (p : Nat) (v2 : Value), i = .int .i64 p ∧ p ≤ nr ∧ Own oprRep wr B0 (fun _ => False) 71 v2 ((xr.take p).map (opOf lsn xt)) ∧ Blk wr X [.int .i64 lsn, v2, .slice (some ⟨NB, 0, none⟩) 1 1] ∧ Blk wr NB [.int .i64 2, .int .i64 xi, .int .i64 0, .int .i64 0, .int .i64 0, .int .i64 xc, .bool xl] ∧ Blk wr w.heap.size [.int .i64 0, .slice none 0 0, .slice none 0 0] ∧ WinAt wr S g ⟨mark, xa, xi, xt, xr, xc, xl, xn, 4⟩ (.slice A0 nr c0') ∧ Below w.heap.size w wr ∧ B0 ≤ wr.heap.size) (fun i _ => nr - (intOf i).toNat)
    case atStart => exact ⟨0, _, rfl, Nat.zero_le _, Own.nil _ _ _ (fun _ h => h.elim) _ none, KX0.out, KN0.out, KR1.out, WA1.out, BV.out, Nat.le_of_eq HB0.out⟩
    case round =>
      obtain ⟨p, v2, rfl, hp, hown, hkx, hkn, hkr, hwa, hbel, hsz⟩ := hrel
      have OW := Lib.hid hown
      have KX := Lib.hid hkx
      have KN := Lib.hid hkn
      have KRr := Lib.hid hkr
      have WAr := Lib.hid hwa
      have BE := Lib.hid hbel
      have HR2 := Lib.hid (show ∀ r, rowOf v2 = some r → B0 ≤ r from fun r hr => OW.out.row_ge hr)
      obtain ⟨x0, x1, x2, xz⟩ := KX.out.c3
      obtain ⟨k0, k1, k2, k3, k4, k5, k6, k7, k8, kz⟩ := WAr.out.blk.c9
      clear hown hkx hkn hkr hwa hbel
      by_cases hlt : p < nr
      · have hd : decide ((p : Int) < (nr : Int)) = true := decide_eq_true (by omega)
        have hpi : (p : Int) < (nr : Int) := by omega
        obtain ⟨b0, off, y, rfl, -, hy, hwf, e0, e1⟩ := WAr.out.own.sl.row hlt (fun _ _ => rfl)
        have HTK := Lib.hid (show (xr.take (p + 1)).map (opOf lsn xt) = (xr.take p).map (opOf lsn xt) ++ [opOf lsn xt y] by rw [take_snoc hy, List.map_append]; rfl)
        have HWF := Lib.hid (show (opOf lsn xt y).wf from ⟨HWI.out.2.2.2, HWI.out.2.1, hwf.1, hwf.2⟩)
        have HLE := Lib.hid (show ((xr.take p).map (opOf lsn xt)).length ≤ 100000 by rw [List.length_map, List.length_take, ← HNR.out]; omega)
        obtain ⟨yk, yv⟩ := y
        dsimp only at e0 e1
        clear hwf hy
        obtain ⟨acc, hacc⟩ : ∃ acc, acc = (xr.take p).map (opOf lsn xt) := ⟨_, rfl⟩
        rw [← hacc] at OW HTK HLE
        clear hacc
        have hle := HLE.out
        have hXr : X < wr.heap.size := by omega
        go_wp2_with fail
        obtain ⟨W1, hW1⟩ : ∃ W1, W1 = wr.alloc (.cells #[.int .i64 yk, .string yv] 80) := ⟨_, rfl⟩
        have b1 : Below wr.heap.size wr W1 := by rw [hW1]; exact (Below.refl _ _).alloc (Nat.le_refl _) _
        have OWD := Lib.hid (OW.out.below b1).drew
        have KXD := Lib.hid (KX.out.after b1).drew
        have KND := Lib.hid (KN.out.after b1).drew
        have KRD := Lib.hid (KRr.out.after b1).drew
        have WAD := Lib.hid (WAr.out.below b1).drew
        have BED := Lib.hid (below_drewN (BE.out.trans (b1.mono BE.out.size)) 1)
        have hW1s : W1.heap.size = wr.heap.size + 1 := by rw [hW1]; simp
        have j0 : W1.cell? ⟨wr.heap.size, 0, none⟩ = some (.int .i64 yk) := by rw [hW1]; exact World.cell?_alloc_at _ _ _ _ rfl
        have j1 : W1.cell? ⟨wr.heap.size, 1, none⟩ = some (.string yv) := by rw [hW1]; exact World.cell?_alloc_at _ _ _ _ rfl
        have BRR : Blk W1 wr.heap.size [.int .i64 yk, .string yv] := by rw [hW1]; exact Blk.new rfl rfl
        rw [← hW1]
        clear hW1 b1
        obtain ⟨k0, k1, k2, k3, k4, k5, k6, k7, k8, kz⟩ := (show Blk W1 g _ from WAD.out.blk).c9
        obtain ⟨x0, x1, x2, xz⟩ := (show Blk W1 X _ from KXD.out).c3
        dsimp only at k0 k1 k2 k3 k4 k5 k6 k7 k8
        have hXW1 : X < W1.drew.heap.size := KXD.out.lt
        have hsz1 : B0 ≤ W1.drew.heap.size := by show B0 ≤ W1.heap.size; omega
        have hsz2 : wr.heap.size < W1.heap.size := by omega
        clear hW1s
        have KRR := Lib.hid (show Blk W1.drew wr.heap.size [.int .i64 yk, .string yv] from BRR)
        have HRL := Lib.hid (show ∀ r, rowOf v2 = some r → r < wr.heap.size from fun r hr => OW.out.row_lt hr)
        have hA : ∀ o : Obj, (W1.alloc o).cell? ⟨g, 3, none⟩ = some (.int .i64 xt) ∧ (W1.alloc o).cell? ⟨wr.heap.size, 0, none⟩ = some (.int .i64 yk) ∧ (W1.alloc o).cell? ⟨wr.heap.size, 1, none⟩ = some (.string yv) := fun o => ⟨(WAD.out.blk.alloc o).1 3 _ rfl, (KRR.out.alloc o).1 0 _ rfl, (KRR.out.alloc o).1 1 _ rfl⟩
        have hX1 : ∀ o : Obj, (W1.alloc o).cell? ⟨X, 1, none⟩ = some v2 := fun o => (KXD.out.alloc o).1 1 _ rfl
        have HSRC := Lib.hid (show Src oprRep (W1.drew.alloc (.cells #[.int .i64 lsn, .int .i64 xt, .int .i64 yk, .bool false, .string yv] 71)) (fun _ => False) (some ⟨W1.heap.size, 0, none⟩) 1 [opOf lsn xt ⟨yk, yv⟩] from Src.new (R := oprRep) (w := W1.drew) (e := 71) (S := fun _ => False) (a := opOf lsn xt ⟨yk, yv⟩) (cs := (opOf lsn xt ⟨yk, yv⟩).cells) ⟨rfl, HWF.out⟩)
        clear BRR
        refine wp_region_held_drew (S := fun w' => w'.cell? ⟨g, 3, none⟩ = some (.int .i64 xt) ∧ w'.cell? ⟨wr.heap.size, 0, none⟩ = some (.int .i64 yk) ∧ w'.cell? ⟨wr.heap.size, 1, none⟩ = some (.string yv)) (by kernel_rfl) ⟨k3, j0, j1⟩ (fun hHeld => ?_)
        (refine wpAnyH_take (i := 0) (v := ?_) rfl (by kernel_rfl) (by kernel_rfl) (by kernel_rfl) (fun _ _ _ h => h) (Or.inl ⟨by rfl, ?_⟩) hHeld ?_; rotate_left 1; focus (intro w hSw; (try dsimp only at hSw); go_simp; try with_reducible rfl)); (try simp only [Act.put, List.setIfInBounds_toArray, List.set_cons_zero, List.set_cons_succ])
        (refine wpAnyH_take (i := 2) (v := ?_) rfl (by kernel_rfl) (by kernel_rfl) (by kernel_rfl) (fun _ _ _ h => h) (Or.inl ⟨by rfl, ?_⟩) hHeld ?_; rotate_left 1; focus (intro w hSw; (try dsimp only at hSw); go_simp; try with_reducible rfl)); (try simp only [Act.put, List.setIfInBounds_toArray, List.set_cons_zero, List.set_cons_succ])
        (refine wpAnyH_take (i := 3) (v := ?_) rfl (by kernel_rfl) (by kernel_rfl) (by kernel_rfl) (fun _ _ _ h => h) (Or.inl ⟨by rfl, ?_⟩) hHeld ?_; rotate_left 1; focus (intro w hSw; (try dsimp only at hSw); go_simp; try with_reducible rfl)); (try simp only [Act.put, List.setIfInBounds_toArray, List.set_cons_zero, List.set_cons_succ])
        (refine wpAnyH_take (i := 4) (v := ?_) rfl (by kernel_rfl) (by kernel_rfl) (by kernel_rfl) (fun _ _ _ h => h) (Or.inl ⟨by rfl, ?_⟩) hHeld ?_; rotate_left 1; focus (intro w hSw; (try dsimp only at hSw); go_simp; try with_reducible rfl)); (try simp only [Act.put, List.setIfInBounds_toArray, List.set_cons_zero, List.set_cons_succ])
        (refine wpAnyH_take (i := 5) (v := ?_) rfl (by kernel_rfl) (by kernel_rfl) (by kernel_rfl) (fun _ _ _ h => h) (Or.inl ⟨by rfl, ?_⟩) hHeld ?_; rotate_left 1; focus (intro w hSw; (try dsimp only at hSw); go_simp; try with_reducible rfl)); (try simp only [Act.put, List.setIfInBounds_toArray, List.set_cons_zero, List.set_cons_succ])
        (refine wpAnyH_take (i := 6) (v := ?_) rfl (by kernel_rfl) (by kernel_rfl) (by kernel_rfl) (fun _ _ _ h => h) (Or.inl ⟨by rfl, ?_⟩) hHeld ?_; rotate_left 1; focus (intro w hSw; (try dsimp only at hSw); go_simp; try with_reducible rfl)); (try simp only [Act.put, List.setIfInBounds_toArray, List.set_cons_zero, List.set_cons_succ])
        (refine wpAnyH_take (i := 7) (v := ?_) rfl (by kernel_rfl) (by kernel_rfl) (by kernel_rfl) (fun _ _ _ h => h) (Or.inl ⟨by rfl, ?_⟩) hHeld ?_; rotate_left 1; focus (intro w hSw; (try dsimp only at hSw); go_simp; try with_reducible rfl)); (try simp only [Act.put, List.setIfInBounds_toArray, List.set_cons_zero, List.set_cons_succ])
        (refine wpAnyH_take (i := 8) (v := ?_) rfl (by kernel_rfl) (by kernel_rfl) (by kernel_rfl) (fun _ _ _ h => h) (Or.inl ⟨by rfl, ?_⟩) hHeld ?_; rotate_left 1; focus (intro w hSw; (try dsimp only at hSw); go_simp; try with_reducible rfl)); (try simp only [Act.put, List.setIfInBounds_toArray, List.set_cons_zero, List.set_cons_succ])
        (refine wpAnyH_take (i := 9) (v := ?_) rfl (by kernel_rfl) (by kernel_rfl) (by kernel_rfl) (fun _ _ _ h => h) (Or.inl ⟨by rfl, ?_⟩) hHeld ?_; rotate_left 1; focus (intro w hSw; (try dsimp only at hSw); go_simp; try with_reducible rfl)); (try simp only [Act.put, List.setIfInBounds_toArray, List.set_cons_zero, List.set_cons_succ])
        (refine wpAnyH_take (i := 10) (v := ?_) rfl (by kernel_rfl) (by kernel_rfl) (by kernel_rfl) (fun _ _ _ h => h) (Or.inl ⟨by rfl, ?_⟩) hHeld ?_; rotate_left 1; focus (intro w hSw; (try dsimp only at hSw); go_simp; try with_reducible rfl)); (try simp only [Act.put, List.setIfInBounds_toArray, List.set_cons_zero, List.set_cons_succ])
        (refine wpAnyH_take (i := 11) (v := ?_) rfl (by kernel_rfl) (by kernel_rfl) (by kernel_rfl) (fun _ _ _ h => h) (Or.inl ⟨by rfl, ?_⟩) hHeld ?_; rotate_left 1; focus (intro w hSw; (try dsimp only at hSw); go_simp; try with_reducible rfl)); (try simp only [Act.put, List.setIfInBounds_toArray, List.set_cons_zero, List.set_cons_succ])
        (refine wpAnyH_take (i := 12) (v := ?_) rfl (by kernel_rfl) (by kernel_rfl) (by kernel_rfl) (fun _ _ _ h => h) (Or.inl ⟨by rfl, ?_⟩) hHeld ?_; rotate_left 1; focus (intro w hSw; (try dsimp only at hSw); go_simp; try with_reducible rfl)); (try simp only [Act.put, List.setIfInBounds_toArray, List.set_cons_zero, List.set_cons_succ])
        refine wpAnyH_ready (rs := [1, 13]) (by kernel_rfl) (by simp) ?_
        refine AllReadyH.cons rfl (fun K hK => ?_) (AllReadyH.cons rfl (fun K hK => ?_) AllReadyH.nil)
        · go_simp
          refine hK.out _ _ hHeld (fun _ => ?_)
          clear hK K
          refine wpAnyH_ready (rs := [13]) (by kernel_rfl) (by simp) ?_
          refine AllReadyH.cons rfl (fun K hK => ?_) AllReadyH.nil
          go_simp
          refine hK.out _ _ (hA _) (fun _ => ?_)
          clear hK K
          refine wpAnyH_ready (rs := [14]) (by kernel_rfl) (by simp) ?_
          refine AllReadyH.cons rfl (fun K hK => ?_) AllReadyH.nil
          refine step_append_Own (w := W1.drew.alloc (.cells #[.int .i64 lsn, .int .i64 xt, .int .i64 yk, .bool false, .string yv] 71)) rfl (.tmp 64) (.tmp 76) 59 rfl B0 71 i0 _ 48 Try.underlying59 hi hz0 hz1 hz2 rfl (R := oprRep) (S := fun _ => False) (l := acc) (l' := [opOf lsn xt ⟨yk, yv⟩]) v2 rfl (OWD.out.alloc _) _ 1 1 rfl HSRC.out (by simp only [maxLen]; omega) (by omega) (by omega) (by simp; omega) ?_
          intro v9 w9 own9 gr9 at9
          obtain ⟨A9, c9, hv9, hlc9, hcm9, sl9⟩ := own9.isSlB
          obtain ⟨m9, hm9⟩ : ∃ m9, m9 = (acc ++ [opOf lsn xt ⟨yk, yv⟩]).length := ⟨_, rfl⟩
          rw [← hm9] at hv9
          subst hv9
          clear hm9 hlc9 hcm9 sl9
          have KX9 := Lib.hid ((KXD.out.alloc _).grown gr9 (fun k hk e => by have := HR2.out k hk; omega))
          have KN9 := Lib.hid ((KND.out.alloc _).grown gr9 (fun k hk e => by have := HR2.out k hk; omega))
          have KR9 := Lib.hid ((KRD.out.alloc _).grown gr9 (fun k hk e => by have := HR2.out k hk; omega))
          have KRR9 := Lib.hid ((KRR.out.alloc _).grown gr9 (fun k hk e => by have := HRL.out k hk; omega))
          have WA9 := Lib.hid ((WAD.out.alloc _).grown gr9 (fun k hk => ⟨fun e => by have := HR2.out k hk; omega, fun e => by have h1 := HR2.out k hk; have h2 := (HRV.out k e).1; omega⟩))
          have BE9 := Lib.hid ((BED.out.alloc BED.out.size _).grown gr9 (by have h9 := BED.out.size; simp at h9 ⊢; omega) (fun k hk => by have := HR2.out k hk; omega))
          have OW9 := Lib.hid own9
          have hs9 : B0 ≤ w9.heap.size := by have h9 := gr9.size; have h8 := hsz1; simp at h9 h8; omega
          clear own9 gr9 at9
          obtain ⟨x0, x1, x2, xz⟩ := KX9.out.c3
          refine hK.out _ _ ⟨WA9.out.blk.1 3 _ rfl, KRR9.out.1 0 _ rfl, KRR9.out.1 1 _ rfl⟩ (fun hHeld9 => ?_)
          clear hK K
          (refine wpAnyH_take (i := 15) (v := ?_) rfl (by kernel_rfl) (by kernel_rfl) (by kernel_rfl) (fun _ _ _ h => h) (Or.inl ⟨by rfl, ?_⟩) hHeld9 ?_; rotate_left 1; focus (intro w hSw; (try dsimp only at hSw); go_simp; try with_reducible rfl)); (try simp only [Act.put, List.setIfInBounds_toArray, List.set_cons_zero, List.set_cons_succ])
          refine wpAnyH_ready (rs := [16]) (by kernel_rfl) (by simp) ?_
          refine AllReadyH.cons rfl (fun K hK => ?_) AllReadyH.nil
          go_simp
          refine hK.out _ _ ⟨(WA9.out.blk.other (Ne.symm hXg) 1 _).1 3 _ rfl, (KRR9.out.other (by omega) 1 _).1 0 _ rfl, (KRR9.out.other (by omega) 1 _).1 1 _ rfl⟩ (fun _ => ?_)
          clear hK K
          refine wpAnyH_done (by kernel_rfl) ?_ _
          go_wp2_with fail
          go_roundw
          case rel => exact ⟨p + 1, .slice A9 m9 c9, by go_num, by omega, by rw [HTK.out]; exact OW9.out.kept (grownBy_set w9 ⟨X, 1, none⟩ _) (fun k hk => ⟨fun e => (by have h1 := OW9.out.row_ge e; injection hk with hk; dsimp only at hk; omega), id⟩), KX9.out.put (by simp) _ rfl, KN9.out.other (Ne.symm hXN) 1 _, KR9.out.other (Ne.symm hXR) 1 _, WA9.out.grown (grownBy_set w9 ⟨X, 1, none⟩ _) (fun k hk => by injection hk with hk; dsimp only at hk; subst hk; exact ⟨hXg, fun e => (HRV.out X e).2 rfl⟩), BE9.out.setCell hXw _, by simpa using hs9⟩
          case measure => simp [intOf]; omega
        · go_simp
          refine hK.out _ _ (hA _) (fun _ => ?_)
          clear hK K
          refine wpAnyH_ready (rs := [1]) (by kernel_rfl) (by simp) ?_
          refine AllReadyH.cons rfl (fun K hK => ?_) AllReadyH.nil
          go_simp
          refine hK.out _ _ (hA _) (fun _ => ?_)
          clear hK K
          refine wpAnyH_ready (rs := [14]) (by kernel_rfl) (by simp) ?_
          refine AllReadyH.cons rfl (fun K hK => ?_) AllReadyH.nil
          refine step_append_Own (w := W1.drew.alloc (.cells #[.int .i64 lsn, .int .i64 xt, .int .i64 yk, .bool false, .string yv] 71)) rfl (.tmp 64) (.tmp 76) 59 rfl B0 71 i0 _ 48 Try.underlying59 hi hz0 hz1 hz2 rfl (R := oprRep) (S := fun _ => False) (l := acc) (l' := [opOf lsn xt ⟨yk, yv⟩]) v2 rfl (OWD.out.alloc _) _ 1 1 rfl HSRC.out (by simp only [maxLen]; omega) (by omega) (by omega) (by simp; omega) ?_
          intro v9 w9 own9 gr9 at9
          obtain ⟨A9, c9, hv9, hlc9, hcm9, sl9⟩ := own9.isSlB
          obtain ⟨m9, hm9⟩ : ∃ m9, m9 = (acc ++ [opOf lsn xt ⟨yk, yv⟩]).length := ⟨_, rfl⟩
          rw [← hm9] at hv9
          subst hv9
          clear hm9 hlc9 hcm9 sl9
          have KX9 := Lib.hid ((KXD.out.alloc _).grown gr9 (fun k hk e => by have := HR2.out k hk; omega))
          have KN9 := Lib.hid ((KND.out.alloc _).grown gr9 (fun k hk e => by have := HR2.out k hk; omega))
          have KR9 := Lib.hid ((KRD.out.alloc _).grown gr9 (fun k hk e => by have := HR2.out k hk; omega))
          have KRR9 := Lib.hid ((KRR.out.alloc _).grown gr9 (fun k hk e => by have := HRL.out k hk; omega))
          have WA9 := Lib.hid ((WAD.out.alloc _).grown gr9 (fun k hk => ⟨fun e => by have := HR2.out k hk; omega, fun e => by have h1 := HR2.out k hk; have h2 := (HRV.out k e).1; omega⟩))
          have BE9 := Lib.hid ((BED.out.alloc BED.out.size _).grown gr9 (by have h9 := BED.out.size; simp at h9 ⊢; omega) (fun k hk => by have := HR2.out k hk; omega))
          have OW9 := Lib.hid own9
          have hs9 : B0 ≤ w9.heap.size := by have h9 := gr9.size; have h8 := hsz1; simp at h9 h8; omega
          clear own9 gr9 at9
          obtain ⟨x0, x1, x2, xz⟩ := KX9.out.c3
          refine hK.out _ _ ⟨WA9.out.blk.1 3 _ rfl, KRR9.out.1 0 _ rfl, KRR9.out.1 1 _ rfl⟩ (fun hHeld9 => ?_)
          clear hK K
          (refine wpAnyH_take (i := 15) (v := ?_) rfl (by kernel_rfl) (by kernel_rfl) (by kernel_rfl) (fun _ _ _ h => h) (Or.inl ⟨by rfl, ?_⟩) hHeld9 ?_; rotate_left 1; focus (intro w hSw; (try dsimp only at hSw); go_simp; try with_reducible rfl)); (try simp only [Act.put, List.setIfInBounds_toArray, List.set_cons_zero, List.set_cons_succ])
          refine wpAnyH_ready (rs := [16]) (by kernel_rfl) (by simp) ?_
          refine AllReadyH.cons rfl (fun K hK => ?_) AllReadyH.nil
          go_simp
          refine hK.out _ _ ⟨(WA9.out.blk.other (Ne.symm hXg) 1 _).1 3 _ rfl, (KRR9.out.other (by omega) 1 _).1 0 _ rfl, (KRR9.out.other (by omega) 1 _).1 1 _ rfl⟩ (fun _ => ?_)
          clear hK K
          refine wpAnyH_done (by kernel_rfl) ?_ _
          go_wp2_with fail
          go_roundw
          case rel => exact ⟨p + 1, .slice A9 m9 c9, by go_num, by omega, by rw [HTK.out]; exact OW9.out.kept (grownBy_set w9 ⟨X, 1, none⟩ _) (fun k hk => ⟨fun e => (by have h1 := OW9.out.row_ge e; injection hk with hk; dsimp only at hk; omega), id⟩), KX9.out.put (by simp) _ rfl, KN9.out.other (Ne.symm hXN) 1 _, KR9.out.other (Ne.symm hXR) 1 _, WA9.out.grown (grownBy_set w9 ⟨X, 1, none⟩ _) (fun k hk => by injection hk with hk; dsimp only at hk; subst hk; exact ⟨hXg, fun e => (HRV.out X e).2 rfl⟩), BE9.out.setCell hXw _, by simpa using hs9⟩
          case measure => simp [intOf]; omega
      · obtain rfl : p = nr := by omega
        have hd : decide ((p : Int) < (p : Int)) = false := by simp
        obtain ⟨Av, cv, hv2, _, _, _⟩ := OW.out.isSlB
        obtain ⟨mv, hmv⟩ : ∃ mv, mv = ((xr.take p).map (opOf lsn xt)).length := ⟨_, rfl⟩
        rw [← hmv] at hv2
        subst hv2
        clear hmv
        obtain ⟨r0, r1, r2, rz⟩ := KRr.out.c3
        have hgX : g ≠ X := Ne.symm hXg
        have hgR : g ≠ w.heap.size := Ne.symm hRg
        have hRX : w.heap.size ≠ X := Ne.symm hXR
        have HNC := Lib.hid (show (xr.take p).map (opOf lsn xt) = xr.map (opOf lsn xt) by rw [List.take_of_length_le (by rw [← HNR.out]; exact Nat.le_refl _)])
        have SLO := Lib.hid (OW.out.isSl (S' := fun k => B0 ≤ k ∧ k < wr.heap.size) (fun _ h => h.elim) (fun k h1 h2 => ⟨h1, h2⟩))
        iterate 63 (first | go_values | go_skip | go_guarded | go_step | go_upon | go_back)
        obtain ⟨Z, hZ⟩ : ∃ Z, Z = ((((((((((wr.setCell ⟨g, 0, none⟩ (.int .i64 0)).setCell ⟨g, 1, none⟩ (.int .i64 0)).setCell ⟨g, 2, none⟩ (.int .i64 0)).setCell ⟨g, 3, none⟩ (.int .i64 0)).setCell ⟨g, 4, none⟩ (.slice none 0 0)).setCell ⟨g, 5, none⟩ (.int .i64 0)).setCell ⟨g, 6, none⟩ (.bool false)).setCell ⟨g, 8, none⟩ (.int .i64 0)).setCell ⟨w.heap.size, 0, none⟩ (.int .i64 lsn)).setCell ⟨w.heap.size, 1, none⟩ (.slice Av mv cv)).setCell ⟨w.heap.size, 2, none⟩ (.slice (some ⟨NB, 0, none⟩) 1 1) := ⟨_, rfl⟩
        have KRz := Lib.hid (show Blk Z w.heap.size [.int .i64 lsn, .slice Av mv cv, .slice (some ⟨NB, 0, none⟩) 1 1] by
          rw [hZ]
          exact (((((((((((KRr.out.other hRg 0 _).other hRg 1 _).other hRg 2 _).other hRg 3 _).other hRg 4 _).other hRg 5 _).other hRg 6 _).other hRg 8 _).put (j := 0) (by simp) _ rfl).put (j := 1) (by simp) _ rfl).put (j := 2) (by simp) _ rfl))
        have KGz := Lib.hid (show Blk Z g [.int .i64 0, .int .i64 0, .int .i64 0, .int .i64 0, .slice none 0 0, .int .i64 0, .bool false, .int .i64 xn, .int .i64 0] by
          rw [hZ]
          exact ((((((((((WAr.out.blk.put (j := 0) (by simp) _ rfl).put (j := 1) (by simp) _ rfl).put (j := 2) (by simp) _ rfl).put (j := 3) (by simp) _ rfl).put (j := 4) (by simp) _ rfl).put (j := 5) (by simp) _ rfl).put (j := 6) (by simp) _ rfl).put (j := 8) (by simp) _ rfl).other hgR 0 _).other hgR 1 _).other hgR 2 _)
        have RZ := Lib.hid (show Rest (fun k => k ≠ g ∧ k ≠ w.heap.size) wr Z by
          rw [hZ]
          have hG : ¬ (g ≠ g ∧ g ≠ w.heap.size) := fun h => h.1 rfl
          have hR : ¬ (w.heap.size ≠ g ∧ w.heap.size ≠ w.heap.size) := fun h => h.2 rfl
          exact ((((((((((((Rest.refl _ wr).set hG 0 _).set hG 1 _).set hG 2 _).set hG 3 _).set hG 4 _).set hG 5 _).set hG 6 _).set hG 8 _).set hR 0 _).set hR 1 _).set hR 2 _))
        have SZ := Lib.hid (show Rest S w Z by
          rw [hZ]
          have hG : ¬ S g := WAr.out.ng
          have hR : ¬ S w.heap.size := fun h => Nat.lt_irrefl _ (hS _ h)
          exact (((((((((((((Rest.refl S w).below hS BE.out).set hG 0 _).set hG 1 _).set hG 2 _).set hG 3 _).set hG 4 _).set hG 5 _).set hG 6 _).set hG 8 _).set hR 0 _).set hR 1 _).set hR 2 _))
        obtain ⟨z0, z1, z2, zz⟩ := KRz.out.c3
        rw [← hZ]
        clear hZ r0 r1 r2 rz x0 x1 x2 xz k0 k1 k2 k3 k4 k5 k6 k7 k8 kz
        go_wp2_with fail
        refine bodyPost_ret (by simp [results, Try.results135, go_sem, z0, z1, z2]; try rfl) rfl ?_
        obtain ⟨A9, c9, hv9, _, _, sl9⟩ := SLO.out
        injection hv9 with q1 q2 q3
        subst q1
        have hws := BE.out.size
        have hwz := RZ.out.size
        rw [← q2, HNC.out] at sl9
        refine ⟨_, rfl, ⟨_, _, _, _, _, _, by rw [HTELL.out], ?_, ?_⟩, ⟨_, KGz.out, Own.nil _ _ _ (fun _ h => h.elim) _ none, WAr.out.ng, fun r hr => by simp [rowOf] at hr⟩, SZ.out⟩
        · rw [HTELL.out]
          exact (sl9.rest RZ.out (fun k hk => ⟨by omega, by omega⟩)).weak (fun k hk => ⟨by omega, by omega⟩)
        · rw [HTELL.out]
          exact IsSl.ofBlk1 (KN.out.rest RZ.out ⟨hNg, hNR2⟩) ⟨rfl, note_wf HWI.out.1 HWI.out.2.2.1⟩ ⟨hNw, by have := (KN.out.rest RZ.out ⟨hNg, hNR2⟩).lt; exact this⟩
end Go.Proofs.Ythhpddiicnjmmaa

set_option linter.unusedVariables false
set_option linter.unusedSimpArgs false
set_option maxRecDepth 100000
namespace Go.Proofs.Ythhpddiicnjmmaa
open Go.RowKit

theorem winhigh_any (g : Nat) (S : Nat → Prop) (x : Win) (mark lsn : Int) (w : World) (hS : ∀ k, S k → k < w.heap.size) (h : WinOwn w S g x) (hn : x.rows.length ≤ 100000) (hi : I64 x.id) (ht : I64 x.table) (hc : I64 x.cursor) :
    Calls Try.prog 135 #[.pointer (some ⟨g, 0, none⟩), .int .i64 mark, .int .i64 lsn] w fun e w' => ∃ A n c A2 n2 c2, e = .returned (.tuple #[.agg #[.int .i64 (x.tell mark lsn).lsn, .slice A n c, .slice A2 n2 c2], .bool (x.highOk mark lsn)]) ∧ IsSl oprRep w' (fun k => w.heap.size ≤ k ∧ k < w'.heap.size) A n (x.tell mark lsn).ops ∧ IsSl noteRep w' (fun k => w.heap.size ≤ k ∧ k < w'.heap.size) A2 n2 (x.tell mark lsn).notes ∧ WinOwn w' S g (x.told mark lsn) ∧ Rest S w w' := by
  by_cases hk : x.highOk mark lsn = true
  · refine (winhigh_ok g S x mark lsn w hS h hk hn hi ht hc).mono ?_
    rintro e w' ⟨v, rfl, ⟨A, n, c, A2, n2, c2, rfl, s1, s2⟩, own, rest⟩
    exact ⟨A, n, c, A2, n2, c2, by rw [hk], s1, s2, by unfold Win.told; rw [if_pos hk]; exact own, rest⟩
  · have hf : x.highOk mark lsn = false := by simpa using hk
    refine (winhigh_no g S x mark lsn w hS h hf).mono ?_
    rintro e w' ⟨rfl, bel⟩
    have ht : x.tell mark lsn = ⟨0, [], []⟩ := if_neg hk
    rw [ht]
    exact ⟨none, 0, 0, none, 0, 0, by rw [hf], IsSl.nil, IsSl.nil, by unfold Win.told; rw [if_neg hk]; exact h.below bel, (Rest.refl S w).below hS bel⟩

theorem WinOwn.lt {w : World} {S : Nat → Prop} {g : Nat} {x : Win} (h : WinOwn w S g x) : g < w.heap.size := by obtain ⟨_, h⟩ := h; exact h.lt
theorem WinOwn.ng {w : World} {S : Nat → Prop} {g : Nat} {x : Win} (h : WinOwn w S g x) : ¬ S g := by obtain ⟨_, h⟩ := h; exact h.ng
theorem WinOwn.less {w : World} {S S' : Nat → Prop} {g : Nat} {x : Win} (h : WinOwn w S g x) (hS : ∀ k, S' k → S k) : WinOwn w S' g x := h.sets (fun hk => h.ng (hS _ hk)) (fun k hk => .inl (hS k hk))
/-- What came behind the window's last step is not the window's. -/
theorem WinOwn.step {w w2 : World} {S : Nat → Prop} {g : Nat} {x : Win} (h : WinOwn w S g x) (hb : Below w.heap.size w w2) : WinOwn w2 (fun k => S k ∨ (w.heap.size ≤ k ∧ k < w2.heap.size)) g x :=
  (h.sets (S' := fun k => S k ∨ (w.heap.size ≤ k ∧ k < w2.heap.size)) (fun hk => hk.elim h.ng (fun e => Nat.lt_irrefl _ (Nat.lt_of_lt_of_le h.lt e.1))) (fun k hk => hk.imp id (fun e => e.1))).below hb
theorem WinOwn.drew {w : World} {S : Nat → Prop} {g : Nat} {x : Win} (h : WinOwn w S g x) : WinOwn w.drew S g x := by obtain ⟨rv, h⟩ := h; exact ⟨rv, h.drew⟩

theorem IsSl.newFlat {α : Type} {size : Nat} {pos : 0 < size} {enc : α → List Value} {wf : α → Prop} {hl : ∀ a, (enc a).length = size} {h1 : ∀ a, ∀ u ∈ enc a, u.oneCell' = true} {w : World} {S : Nat → Prop} {t : TypeId} (l : List α) (hw : ∀ x ∈ l, wf x) {cs : Array Value} (hcs : cs = ((l.map enc).flatten).toArray) {n : Nat} (hn : n = l.length) (hS : S w.heap.size) :
    IsSl (Rep.flat size pos enc wf hl h1) (w.alloc (.cells cs t)) S (some ⟨w.heap.size, 0, none⟩) n l := by
  subst hcs
  refine ⟨hn, l.map enc, ⟨by simp, fun k a cs ha hc => ?_⟩, fun _ => ⟨_, 0, rfl, hS, fun j u hu => ?_⟩⟩
  · rw [List.getElem?_map, ha] at hc
    exact ⟨(Option.some.inj hc).symm, hw a (List.mem_of_getElem? ha)⟩
  · rw [Nat.zero_add, World.cell?_alloc_at _ _ _ _ rfl]
    simpa using hu

def strA : ByteArray := ⟨#[97]⟩
def strB : ByteArray := ⟨#[98]⟩

end Go.Proofs.Ythhpddiicnjmmaa

set_option linter.unusedVariables false
set_option linter.unusedSimpArgs false
set_option maxRecDepth 100000
namespace Go.Proofs.Ythhpddiicnjmmaa
open Go.RowKit

/-- The window stands at g; S: blocks that are not its own, all of w0's among them. -/
structure WS (w0 w : World) (S : Nat → Prop) (g : Nat) (x : Win) : Prop where
  own : WinOwn w S g x
  hS : ∀ k, S k → k < w.heap.size
  base : ∀ k, k < w0.heap.size → S k
  bel : Below w0.heap.size w0 w

section
variable {w0 w w2 w' : World} {S : Nat → Prop} {g : Nat} {x x' : Win}

theorem WS.call (h : WS w0 w S g x) (o : WinOwn w' S g x') (r : Rest S w w') : WS w0 w' S g x' :=
  ⟨o, fun k hk => Nat.lt_of_lt_of_le (h.hS k hk) r.size, h.base, h.bel.trans (r.toBelow h.base)⟩
theorem WS.below (h : WS w0 w S g x) (hb : Below w.heap.size w w2) : WS w0 w2 S g x :=
  ⟨h.own.below hb, fun k hk => Nat.lt_of_lt_of_le (h.hS k hk) hb.size, h.base, h.bel.trans (hb.mono h.bel.size)⟩
theorem WS.alloc (h : WS w0 w S g x) (o : Obj) : WS w0 (w.alloc o) S g x := h.below ((Below.refl _ _).alloc (Nat.le_refl _) o)
theorem WS.drew (h : WS w0 w S g x) : WS w0 w.drew S g x := ⟨h.own.drew, h.hS, h.base, below_drewN h.bel 1⟩
theorem WS.step (h : WS w0 w S g x) (hb : Below w.heap.size w w2) : WS w0 w2 (fun k => S k ∨ (w.heap.size ≤ k ∧ k < w2.heap.size)) g x :=
  ⟨h.own.step hb, fun k hk => hk.elim (fun e => Nat.lt_of_lt_of_le (h.hS k e) hb.size) (fun e => e.2), fun k hk => .inl (h.base k hk), h.bel.trans (hb.mono h.bel.size)⟩
theorem WS.less {S' : Nat → Prop} (h : WS w0 w S g x) (hS : ∀ k, S' k → S k) (hb : ∀ k, k < w0.heap.size → S' k) : WS w0 w S' g x :=
  ⟨h.own.less hS, fun k hk => h.hS k (hS k hk), hb, h.bel⟩
theorem WS.rest (h : WS w0 w S g x) (hb : Below w.heap.size w w2) : Rest S w w2 := (Rest.refl S w).below h.hS hb
/-- A list that lies beside the window. -/
theorem IsSl.call {α : Type} {R : Rep α} {A : Option Addr} {n : Nat} {l : List α} (h : IsSl R w S A n l) (r : Rest S w w') : IsSl R w' S A n l := h.rest r (fun _ h => h)

theorem ws_open (h : WS w0 w S g x) (mark id table after : Int) :
    Calls Try.prog 98 #[.pointer (some ⟨g, 0, none⟩), .int .i64 mark, .int .i64 id, .int .i64 table, .int .i64 after] w fun e w' => e = .returned (.bool (x.openOk mark id table after)) ∧ WS w0 w' S g (x.opened mark id table after) ∧ Rest S w w' := by
  refine (winopen_any g S x mark id table after w h.hS h.own).mono ?_
  rintro e w' ⟨rfl, o, r⟩
  exact ⟨rfl, h.call o r, r⟩

theorem ws_fill (h : WS w0 w S g x) (A : Option Addr) (n c : Nat) (l : List Row) (hl : IsSl rowRep w S A n l) (hn : x.n ≤ 64) (hm : n ≤ maxLen) :
    Calls Try.prog 100 #[.pointer (some ⟨g, 0, none⟩), .slice A n c] w fun e w' => e = .returned (.bool (x.fillOk l)) ∧ WS w0 w' S g (x.filled l) ∧ Rest S w w' := by
  refine (winfill_any g S x A n c l w h.hS h.own S (fun _ h => h) hl hn hm).mono ?_
  rintro e w' ⟨rfl, o, r⟩
  exact ⟨rfl, h.call o r, r⟩

theorem ws_fill_new (h : WS w0 w S g x) (hb : Below w.heap.size w w2) (A : Option Addr) (n c : Nat) (l : List Row) (hl : IsSl rowRep w2 (fun k => w.heap.size ≤ k ∧ k < w2.heap.size) A n l) (hn : x.n ≤ 64) (hm : n ≤ maxLen) :
    Calls Try.prog 100 #[.pointer (some ⟨g, 0, none⟩), .slice A n c] w2 fun e w' => e = .returned (.bool (x.fillOk l)) ∧ WS w0 w' S g (x.filled l) ∧ Rest S w w' := by
  refine (ws_fill (h.step hb) A n c l (hl.weak fun _ h => .inr h) hn hm).mono ?_
  rintro e w' ⟨rfl, o, r⟩
  exact ⟨rfl, o.less (fun _ hk => .inl hk) h.base, (h.rest hb).trans (r.less fun _ hk => .inl hk)⟩

theorem ws_shut (h : WS w0 w S g x) :
    Calls Try.prog 102 #[.pointer (some ⟨g, 0, none⟩)] w fun e w' => e = .returned (.bool (decide (x.state = 2))) ∧ WS w0 w' S g x.shut ∧ Rest S w w' := by
  refine (winshut_any g S x w h.own).mono ?_
  rintro e w' ⟨rfl, o, r⟩
  exact ⟨rfl, h.call o r, r⟩

theorem ws_low (h : WS w0 w S g x) (mark : Int) :
    Calls Try.prog 80 #[.pointer (some ⟨g, 0, none⟩), .int .i64 mark] w fun e w' => e = .returned (.bool (decide (x.state = 3 ∧ mark = x.mark))) ∧ WS w0 w' S g (x.low mark) ∧ Rest S w w' := by
  refine (winlow_any g S x mark w h.own).mono ?_
  rintro e w' ⟨rfl, o, r⟩
  exact ⟨rfl, h.call o r, r⟩

theorem ws_see (h : WS w0 w S g x) (A : Option Addr) (n c : Nat) (l : List Chg) (hl : IsSl chgRep w S A n l) (hn : x.rows.length ≤ 100000) (hm : n ≤ 1000000) :
    Calls Try.prog 134 #[.pointer (some ⟨g, 0, none⟩), .slice A n c] w fun e w' => e = .returned (.int .i64 (x.saw l)) ∧ WS w0 w' S g (x.see l) ∧ Rest S w w' := by
  refine (winsee_any g S x A n c l w h.hS h.own S (fun _ h => h) hl hn hm).mono ?_
  rintro e w' ⟨rfl, o, r⟩
  exact ⟨rfl, h.call o r, r⟩

theorem ws_see_new (h : WS w0 w S g x) (hb : Below w.heap.size w w2) (A : Option Addr) (n c : Nat) (l : List Chg) (hl : IsSl chgRep w2 (fun k => w.heap.size ≤ k ∧ k < w2.heap.size) A n l) (hn : x.rows.length ≤ 100000) (hm : n ≤ 1000000) :
    Calls Try.prog 134 #[.pointer (some ⟨g, 0, none⟩), .slice A n c] w2 fun e w' => e = .returned (.int .i64 (x.saw l)) ∧ WS w0 w' S g (x.see l) ∧ Rest S w w' := by
  refine (ws_see (h.step hb) A n c l (hl.weak fun _ h => .inr h) hn hm).mono ?_
  rintro e w' ⟨rfl, o, r⟩
  exact ⟨rfl, o.less (fun _ hk => .inl hk) h.base, (h.rest hb).trans (r.less fun _ hk => .inl hk)⟩

theorem ws_waits {TA TB : Option Addr} {tn tc tm td : Nat} (h : WS w0 w S g x) (lsn kind mark : Int) :
    Calls Try.prog 104 #[.pointer (some ⟨g, 0, none⟩), .agg #[.int .i64 lsn, .int .i64 kind, .slice TA tn tc, .slice TB tm td, .int .i64 mark]] w fun e w' => e = .returned (.bool (x.waits kind mark)) ∧ WS w0 w' S g x ∧ Rest S w w' := by
  refine (winwaits_any g S x lsn kind mark w h.own).mono ?_
  rintro e w' ⟨rfl, b⟩
  exact ⟨rfl, h.below b, h.rest b⟩

theorem ws_state (h : WS w0 w S g x) :
    Calls Try.prog 95 #[.pointer (some ⟨g, 0, none⟩)] w fun e w' => e = .returned (.int .i64 x.state) ∧ w = w' := winState_any g S x w h.own

theorem ws_rows (h : WS w0 w S g x) (hn : x.rows.length ≤ 100000) :
    Calls Try.prog 96 #[.pointer (some ⟨g, 0, none⟩)] w fun e w' => ∃ A c, e = .returned (.slice A x.rows.length c) ∧ WS w0 w' S g x ∧ Rest S w w' ∧ IsSl rowRep w' (fun k => w.heap.size ≤ k ∧ k < w'.heap.size) A x.rows.length x.rows := by
  refine (winRows_any g S x w h.own hn).mono ?_
  rintro e w' ⟨v, rfl, o, b⟩
  obtain ⟨A, c, rfl, _, _, sl⟩ := o.isSl (S' := fun k => w.heap.size ≤ k ∧ k < w'.heap.size) (fun _ h => h.elim) (fun k h1 h2 => ⟨h1, h2⟩)
  exact ⟨A, c, rfl, h.below b, h.rest b, sl⟩

theorem ws_high (h : WS w0 w S g x) (mark lsn : Int) (hn : x.rows.length ≤ 100000) (hi : I64 x.id) (ht : I64 x.table) (hc : I64 x.cursor) :
    Calls Try.prog 135 #[.pointer (some ⟨g, 0, none⟩), .int .i64 mark, .int .i64 lsn] w fun e w' => ∃ A n c A2 n2 c2, e = .returned (.tuple #[.agg #[.int .i64 (x.tell mark lsn).lsn, .slice A n c, .slice A2 n2 c2], .bool (x.highOk mark lsn)]) ∧ IsSl oprRep w' (fun k => w.heap.size ≤ k ∧ k < w'.heap.size) A n (x.tell mark lsn).ops ∧ IsSl noteRep w' (fun k => w.heap.size ≤ k ∧ k < w'.heap.size) A2 n2 (x.tell mark lsn).notes ∧ WS w0 w' S g (x.told mark lsn) ∧ Rest S w w' := by
  refine (winhigh_any g S x mark lsn w h.hS h.own hn hi ht hc).mono ?_
  rintro e w' ⟨A, n, c, A2, n2, c2, rfl, s1, s2, o, r⟩
  exact ⟨A, n, c, A2, n2, c2, rfl, s1, s2, h.call o r, r⟩

theorem ws_new (n : Int) (w : World) (h1 : 1 ≤ n) (h2 : n ≤ 64) :
    Calls Try.prog 74 #[.int .i64 n] w fun e w' => e = .returned (.tuple #[.pointer (some ⟨w.heap.size, 0, none⟩), .int .i64 0]) ∧ WS w w' (· < w.heap.size) w.heap.size (win0 n) := by
  refine (winnew_ok n w h1 h2 (· < w.heap.size) (fun _ h => h)).mono ?_
  rintro e w' ⟨rfl, o, b⟩
  exact ⟨rfl, o, fun k hk => Nat.lt_of_lt_of_le hk b.size, fun _ h => h, b⟩
end
end Go.Proofs.Ythhpddiicnjmmaa
