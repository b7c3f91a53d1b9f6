/- Contract of the window: See. -/
import Derived.Test.YtojjeogpggielaaWin4
import Derived.Test.YtojjeogpggielaaTxn2
set_option linter.unusedVariables false
set_option linter.unusedSimpArgs false
namespace Go.Proofs.Ytojjeogpggielaa
open Go.RowKit

/-- What is left of rows when changes are seen. -/
def seeL (table : Int) : List Chg → List Row → List Row
  | [], rs => rs
  | c :: t, rs => seeL table t (if c.table = table then rs.filter (keepK c.key) else rs)

theorem seeL_snoc (table : Int) (c : Chg) : ∀ (l : List Chg) (rs : List Row), seeL table (l ++ [c]) rs = if c.table = table then (seeL table l rs).filter (keepK c.key) else seeL table l rs
  | [], rs => rfl
  | d :: t, rs => by rw [List.cons_append, seeL, seeL, seeL_snoc table c t]

theorem seeL_len (table : Int) : ∀ (l : List Chg) (rs : List Row), (seeL table l rs).length ≤ rs.length
  | [], rs => Nat.le_refl _
  | c :: t, rs => by
    rw [seeL]
    split
    · exact Nat.le_trans (seeL_len table t _) (List.length_filter_le _ _)
    · exact seeL_len table t _

def Win.see (x : Win) (l : List Chg) : Win := if x.state = 4 then ⟨x.mark, x.after, x.id, x.table, seeL x.table l x.rows, x.cursor, x.last, x.n, x.state⟩ else x
def Win.saw (x : Win) (l : List Chg) : Int := if x.state = 4 then (x.rows.length : Int) - ((seeL x.table l x.rows).length : Int) else 0

/-- Rows that were thrown out of the window's row. -/
theorem WinAt.delete {w w2 : World} {S : Nat → Prop} {g : Nat} {xm xa xi xt xc xn xs : Int} {xr r' : List Row} {xl : Bool} {A : Option Addr} {n m c : Nat} (h : WinAt w S g ⟨xm, xa, xi, xt, xr, xc, xl, xn, xs⟩ (.slice A n c)) (o : Own rowRep w2 0 (fun _ => False) 55 (.slice A m c) r') (hr : Rest (But w (.slice A n c)) w w2) :
    WinAt (w2.setCell ⟨g, 4, none⟩ (.slice A m c)) S g ⟨xm, xa, xi, xt, r', xc, xl, xn, xs⟩ (.slice A m c) := by
  have he : rowOf (.slice A m c) = rowOf (.slice A n c) := by cases A <;> cases c <;> rfl
  have hg : But w (.slice A n c) g := ⟨h.lt, fun e => (h.nr g e).2 rfl⟩
  exact ⟨(h.blk.rest hr hg).put (j := 4) (by simp) _ rfl, o.setG (fun r e => (h.nr r (by rw [← he]; exact e)).2) 4 _, h.ng, fun r e => h.nr r (by rw [← he]; exact e)⟩

theorem WinAt.drew {w : World} {S : Nat → Prop} {g : Nat} {x : Win} {rv : Value} (h : WinAt w S g x rv) : WinAt w.drew S g x rv := ⟨h.blk.drew, h.own.drew, h.ng, h.nr⟩

theorem Rest.drew {S : Nat → Prop} {a b : World} (h : Rest S a b) : Rest S a b.drew := ⟨h.os, h.tape, h.output, h.size, h.block⟩

set_option maxHeartbeats 8000000 in
set_option maxRecDepth 100000 in
theorem winsee_any (g : Nat) (S : Nat → Prop) (x : Win) (A : Option Addr) (n c : Nat) (l : List Chg) (w : World) (hS : ∀ k, S k → k < w.heap.size) (h : WinOwn w S g x) (T : Nat → Prop) (hT : ∀ k, T k → S k) (hl : IsSl chgRep w T A n l) (hn : x.rows.length ≤ 100000) (hm : n ≤ 1000000) :
    Calls Try.prog 27 #[.pointer (some ⟨g, 0, none⟩), .slice A n c] w fun e w' => e = .returned (.int .i64 (x.saw l)) ∧ WinOwn w' S g (x.see l) ∧ Rest S w w' := by
  have H := Lib.hid h
  obtain ⟨rv, h⟩ := h
  obtain ⟨c0, c1, c2, c3, c4, c5, c6, c7, c8, cz⟩ := h.blk.c9
  have hmf : ∀ (fn : Fn) (first cap : Array Value) (w : World), (Instr.makeFunc fn first cap).run Try.prog w = .ok (.func fn first cap) w := fun _ _ _ _ => rfl
  have HL := Lib.hid hl
  have HN := Lib.hid hl.len
  obtain ⟨xm, xa, xi, xt, xr, xc, xl, xn, xs⟩ := x
  dsimp only at c0 c1 c2 c3 c4 c5 c6 c7 c8 hn
  obtain ⟨Ar, cr, hrv⟩ := h.own.form
  dsimp only at hrv
  subst hrv
  have HA := Lib.hid h
  clear h hl
  by_cases h0 : ¬ xs = 4
  · have HF := Lib.hid (show Win.saw ⟨xm, xa, xi, xt, xr, xc, xl, xn, xs⟩ l = 0 ∧ Win.see ⟨xm, xa, xi, xt, xr, xc, xl, xn, xs⟩ l = ⟨xm, xa, xi, xt, xr, xc, xl, xn, xs⟩ from ⟨if_neg h0, if_neg h0⟩)
    have d0 : (xs == 4) = false := by simpa using h0
    have d0n : (xs != 4) = true := by simpa using h0
    have d0d : decide (xs = 4) = false := decide_eq_false h0
    clear h0
    go_enter Try.func27, Try.ntmps27
    go_wp2
    go_ret
    rw [HF.out.1, HF.out.2]
    exact ⟨rfl, H.out, Rest.refl _ _⟩
  obtain rfl : xs = 4 := Classical.byContradiction h0
  clear h0
  have HT := Lib.hid (show Win.saw ⟨xm, xa, xi, xt, xr, xc, xl, xn, 4⟩ l = (xr.length : Int) - ((seeL xt l xr).length : Int) ∧ Win.see ⟨xm, xa, xi, xt, xr, xc, xl, xn, 4⟩ l = ⟨xm, xa, xi, xt, seeL xt l xr, xc, xl, xn, 4⟩ from ⟨if_pos rfl, if_pos rfl⟩)
  obtain ⟨was, hwas⟩ : ∃ was, was = xr.length := ⟨_, rfl⟩
  rw [← hwas] at c4 hn
  have HWAS := Lib.hid hwas
  clear hwas
  go_enter Try.func27, Try.ntmps27
  go_wp2_with fail
  go_loopw [21] (fun i wr => ∃ (p : Nat) (A' : Option Addr) (m' c' : Nat), i = .int .i64 p ∧ p ≤ n ∧ m' = (seeL xt (l.take p) xr).length ∧ WinAt wr S g ⟨xm, xa, xi, xt, seeL xt (l.take p) xr, xc, xl, xn, 4⟩ (.slice A' m' c') ∧ Rest S w wr) (fun i _ => n - (intOf i).toNat)
  case atStart => exact ⟨0, Ar, xr.length, cr, rfl, Nat.zero_le _, rfl, HA.out, Rest.refl _ _⟩
  case round =>
    obtain ⟨p, A', m', c', rfl, hp, hm', hwa, hrest⟩ := hrel
    have WA := Lib.hid hwa
    have R := Lib.hid hrest
    have hsz := hrest.size
    have HM' := Lib.hid hm'
    have hml : m' ≤ 100000 := by rw [hm']; have := seeL_len xt (l.take p) xr; have := HWAS.out; omega
    obtain ⟨k0, k1, k2, k3, k4, k5, k6, k7, k8, kz⟩ := hwa.blk.c9
    have hgw := hwa.lt
    clear hwa hrest hm'
    by_cases hlt : p < n
    · have hd : decide ((p : Int) < (n : Int)) = true := decide_eq_true (by omega)
      have hpi : (p : Int) < (n : Int) := by omega
      obtain ⟨b0, off, y, cs, rfl, hbT, hy, ⟨rfl, hwf⟩, hcs⟩ := (HL.out.rest R.out hT).at_ hlt
      have q0 : wr.cell? ⟨b0, off + p * 4, none⟩ = some (.int .i64 y.table) := hcs 0 _ rfl
      have q1 : wr.cell? ⟨b0, off + p * 4 + 1, none⟩ = some (.int .i64 y.key) := hcs 1 _ rfl
      have q2 : wr.cell? ⟨b0, off + p * 4 + 2, none⟩ = some (.bool y.gone) := hcs 2 _ rfl
      have q3 : wr.cell? ⟨b0, off + p * 4 + 3, none⟩ = some (.string y.val) := hcs 3 _ rfl
      have HTK := Lib.hid (show seeL xt (l.take (p + 1)) xr = if y.table = xt then (seeL xt (l.take p) xr).filter (keepK y.key) else seeL xt (l.take p) xr by rw [take_snoc hy, seeL_snoc])
      obtain ⟨yt, yk, yg, yv⟩ := y
      dsimp only at q0 q1 q2 q3
      clear hcs hy hwf
      obtain ⟨W1, hW1⟩ : ∃ W1, W1 = wr.alloc (.cells #[.int .i64 yt, .int .i64 yk, .bool yg, .string yv] 53) := ⟨_, rfl⟩
      have B1 : Below wr.heap.size wr W1 := by rw [hW1]; exact (Below.refl _ _).alloc (Nat.le_refl _) _
      have WA1 := Lib.hid (WA.out.below B1)
      have R1 := Lib.hid (show Rest S w W1 from R.out.new hS B1)
      have hcb : W1.cell? ⟨wr.heap.size, 1, none⟩ = some (.int .i64 yk) := by rw [hW1]; exact World.cell?_alloc_at _ _ _ _ rfl
      have hct : W1.cell? ⟨wr.heap.size, 0, none⟩ = some (.int .i64 yt) := by rw [hW1]; exact World.cell?_alloc_at _ _ _ _ rfl
      obtain ⟨k0, k1, k2, k3, k4, k5, k6, k7, k8, kz⟩ := WA1.out.blk.c9
      have HW1 := Lib.hid hW1
      clear hW1 B1
      have WD := Lib.hid WA1.out.drew
      have RD := Lib.hid R1.out.drew
      have hcbd : W1.drew.cell? ⟨wr.heap.size, 1, none⟩ = some (.int .i64 yk) := hcb
      have hWs : wr.heap.size < W1.drew.heap.size := World.block_lt_of_cell? W1 _ hcb
      obtain ⟨r0, r1, r2, r3, r4, r5, r6, r7, r8, rz⟩ := WD.out.blk.c9
      have hgd : g < wr.heap.size := hgw
      have hrow : rowOf (.slice A' m' c') ≠ some wr.heap.size := fun e => Nat.lt_irrefl _ (WA.out.own.row_lt e)
      by_cases g1 : yt = xt
      · have e1 : (yt == xt) = true := by simpa using g1
        have HG := Lib.hid g1
        clear g1
        go_wp2_with fail
        rw [← HW1.out]
        go_region_held3 (fun w' => w'.cell? ⟨wr.heap.size, 0, none⟩ = some (.int .i64 yt) ∧ w'.cell? ⟨g, 3, none⟩ = some (.int .i64 xt)) (first | exact ⟨hct, k3⟩ | fail) (fail)
        go_wp2_with (first
          | (go_at_call 63; (with_reducible refine (delfunc_any A' m' c' (seeL xt (l.take p) xr) wr.heap.size yk W1.drew WD.out.own hml hcbd hrow).mono ?_); rintro e w2 ⟨m2, rfl, own2, rest2⟩; have WN := Lib.hid (WD.out.delete own2 rest2); have RN := Lib.hid (RD.out.trans (rest2.less (fun k hk => ⟨by have h1 := hS k hk; have h2 := RD.out.size; omega, fun e => (WD.out.nr k e).1 hk⟩))); have hb2 := WD.out.blk.rest rest2 ⟨WD.out.lt, fun e => (WD.out.nr g e).2 rfl⟩; obtain ⟨t0, t1, t2, t3, t4, t5, t6, t7, t8, tz⟩ := hb2.c9; have M2 := Lib.hid own2.form; clear own2 rest2 hb2)
          | fail)
        go_roundw
        case rel =>
          have hk := HTK.out
          (try dsimp only at hk)
          rw [if_pos HG.out] at hk
          exact ⟨p + 1, A', m2, c', by go_num, by omega, by rw [hk]; obtain ⟨_, _, hv⟩ := M2.out; injection hv, by rw [hk]; exact WN.out, RN.out.set HA.out.ng 4 _⟩
        case measure => simp [intOf]; omega
      · have e1 : (yt == xt) = false := by simpa using g1
        have HG := Lib.hid g1
        clear g1
        go_wp2_with fail
        rw [← HW1.out]
        go_region_held3 (fun w' => w'.cell? ⟨wr.heap.size, 0, none⟩ = some (.int .i64 yt) ∧ w'.cell? ⟨g, 3, none⟩ = some (.int .i64 xt)) (first | exact ⟨hct, k3⟩ | fail) (fail)
        go_wp2
        go_roundw
        case rel =>
          have hk := HTK.out
          (try dsimp only at hk)
          rw [if_neg HG.out] at hk
          exact ⟨p + 1, A', m', c', by go_num, by omega, by rw [hk]; exact HM'.out, by rw [hk]; exact WD.out, RD.out⟩
        case measure => simp [intOf]; omega
    · obtain rfl : p = n := by omega
      have hd : decide ((p : Int) < (p : Int)) = false := by simp
      have HE := Lib.hid (show seeL xt (l.take p) xr = seeL xt l xr by rw [List.take_of_length_le (by rw [← HN.out]; exact Nat.le_refl _)])
      go_wp2
      go_ret
      rw [HT.out.1, HT.out.2]
      rw [HE.out] at WA HM'
      exact ⟨by rw [HM'.out, ← HWAS.out]; rfl, ⟨_, WA.out⟩, R.out⟩
end Go.Proofs.Ytojjeogpggielaa
