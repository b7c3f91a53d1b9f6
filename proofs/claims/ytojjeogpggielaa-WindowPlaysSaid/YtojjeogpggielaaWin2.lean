/- Contracts of the window: Clone, Rows, Fill, Waits. -/
import Derived.Test.YtojjeogpggielaaWin1
import Derived.Lib.SliceRun
import Derived.Deep.RegionHeld3
import Derived.Deep.QuietTactic
import Derived.BigQuiet
set_option linter.unusedVariables false
set_option linter.unusedSimpArgs false
namespace Go.Proofs.Ytojjeogpggielaa
open Go.RowKit

theorem info_row : (Try.prog.info? 55).map (fun i => (i.zero, i.size, i.bytes)) = some (some (.agg #[.int .i64 0, .string ByteArray.empty]), 2, 24) := by kernel_rfl

theorem IsSl.srcK {α : Type} {R : Rep α} {w w' : World} {S T : Nat → Prop} {A : Option Addr} {n : Nat} {l : List α} (hf : Flat R) (h : IsSl R w T A n l) (hk : ∀ p : Addr, T p.block → w'.cell? p = w.cell? p) : Src R w' S A n l := by
  obtain ⟨h1, xss, h2, h3⟩ := h
  exact ⟨h1, xss, h2.flat hf, (h3.keep hk).weak fun _ _ => trivial⟩

set_option maxHeartbeats 2000000 in
theorem cloneR_any (A : Option Addr) (n c : Nat) (l : List Row) (w : World) (T : Nat → Prop) (hT : ∀ k, T k → k < w.heap.size) (h : IsSl rowRep w T A n l) (hn : n ≤ 100000) :
    Calls Try.prog 61 #[.slice A n c] w fun e w' => ∃ v, e = .returned v ∧ Own rowRep w' w.heap.size (fun _ => False) 55 v l ∧ Below w.heap.size w w' := by
  obtain ⟨i0, hi, hz0, hz1, hz2⟩ := info_parts info_row
  have qT : ∀ (w : World) (a : Option Addr) (n c n' c' : Nat), (binOp .eql 34 (.slice a n c) (.slice none n' c')).run Try.prog w = .ok (.bool a.isNone) w := fun w a n c n' c' => Lib.run_eql_slice_nil w _ _ a n c n' c' Try.underlying34
  have H := Lib.hid h
  have HL := Lib.hid h.len
  cases A with
  | none =>
    have hl : l = [] := by
      have h0 : n = 0 := by
        rcases Nat.eq_zero_or_pos n with h0 | h0
        · exact h0
        · obtain ⟨b, off, a, cs, he, _⟩ := h.at_ (k := 0) h0
          cases he
      exact List.eq_nil_of_length_eq_zero (by rw [← h.len, h0])
    subst hl
    clear h
    go_enter Try.func61, Try.ntmps61
    go_wp2
    go_ret
    exact ⟨_, rfl, Own.nil _ _ _ (fun _ h => h.elim) _ none, Below.refl _ _⟩
  | some a =>
    have hb0 : Below w.heap.size w (w.alloc (.cells #[] 55)) := (Below.refl _ _).alloc (Nat.le_refl _) _
    have HS := Lib.hid (show ∀ S, Src rowRep (w.alloc (.cells #[] 55)) S (some a) n l from fun S => h.srcK flat_row (fun p hp => hb0.cell (hT _ hp)))
    clear h
    go_enter Try.func61, Try.ntmps61
    go_wp2_with (first
      | (at_builtin; refine wpList_append_Own _ rfl _ _ 34 rfl w.heap.size 55 i0 _ 24 Try.underlying34 hi hz0 hz1 hz2 rfl (R := rowRep) (S := fun _ => False) (l := []) (l' := l) (.slice (some ⟨w.heap.size, 0, none⟩) 0 0) rfl (Own.nil _ _ _ (fun _ h => h.elim) _ _) (some a) n c rfl (HS.out _) (by simp [maxLen]; omega) (by simp; omega) (by omega) (by simp) ?_; intro v1 w1 own1 gr1 at1; have bel1 := hb0.grown gr1 (by simp) (by intro k hk; simp [rowOf] at hk); simp only [List.nil_append] at own1; have OW1 := Lib.hid own1; have B1 := Lib.hid bel1; clear gr1 at1 own1 bel1)
      | fail)
    go_ret
    exact ⟨_, rfl, OW1.out, B1.out⟩

theorem winRows_any (g : Nat) (S : Nat → Prop) (x : Win) (w : World) (h : WinOwn w S g x) (hn : x.rows.length ≤ 100000) :
    Calls Try.prog 32 #[.pointer (some ⟨g, 0, none⟩)] w fun e w' => ∃ v, e = .returned v ∧ Own rowRep w' w.heap.size (fun _ => False) 55 v x.rows ∧ Below w.heap.size w w' := by
  obtain ⟨rv, h⟩ := h
  obtain ⟨c0, c1, c2, c3, c4, c5, c6, c7, c8, cz⟩ := h.blk.c9
  obtain ⟨A, c, rfl, _, _, sl⟩ := h.own.isSlB
  have SL := Lib.hid sl
  clear h sl
  go_enter Try.func32, Try.ntmps32
  go_wp2_with (first
    | (go_at_call 61; (with_reducible refine (cloneR_any A _ c x.rows w (· < w.heap.size) (fun _ h => h) SL.out hn).mono ?_); rintro e w1 ⟨v1, rfl, own1, bel1⟩)
    | fail)
  go_ret
  exact ⟨_, rfl, own1, bel1⟩

/-! ### Fill -/
def rising : Int → List Row → Bool
  | _, [] => true
  | k, r :: t => decide (k < r.key ∧ r.key ≤ 1099511627776) && rising r.key t

theorem lastKey_cons (r : Row) (t : List Row) (k : Int) : lastKey (r :: t) k = lastKey t r.key := by
  unfold lastKey
  rw [List.getLast?_cons]
  cases h : t.getLast? <;> simp [h]

theorem rising_append : ∀ (a b : List Row) (k : Int), rising k (a ++ b) = (rising k a && rising (lastKey a k) b)
  | [], b, k => by simp [rising, lastKey_nil]
  | r :: t, b, k => by
    rw [List.cons_append, rising, rising, rising_append t b r.key, lastKey_cons, Bool.and_assoc]

theorem rising_snoc (a : List Row) (r : Row) (k : Int) : rising k (a ++ [r]) = (rising k a && decide (lastKey a k < r.key ∧ r.key ≤ 1099511627776)) := by
  rw [rising_append, rising, rising, Bool.and_true]

theorem lastKey_snoc (a : List Row) (r : Row) (k : Int) : lastKey (a ++ [r]) k = r.key := by unfold lastKey; simp

theorem rising_take {l : List Row} {k : Int} {p : Nat} (h : rising k (l.take p) = false) : rising k l = false := by
  have := rising_append (l.take p) (l.drop p) k
  rw [List.take_append_drop, h, Bool.false_and] at this
  exact this

def Win.fillOk (x : Win) (l : List Row) : Bool := decide (x.state = 1 ∧ (l.length : Int) ≤ x.n) && rising x.after l
def Win.filled (x : Win) (l : List Row) : Win := if x.fillOk l = true then ⟨x.mark, x.after, x.id, x.table, l, lastKey l x.after, decide ((l.length : Int) < x.n), x.n, 2⟩ else x

theorem IsSl.row {w w' : World} {T : Nat → Prop} {n k : Nat} {A : Option Addr} {l : List Row} (h : IsSl rowRep w T A n l) (hk : k < n) (hw : ∀ p : Addr, T p.block → w'.cell? p = w.cell? p) :
    ∃ b off x, A = some ⟨b, off, none⟩ ∧ T b ∧ l[k]? = some x ∧ x.wf ∧ w'.cell? ⟨b, off + k * 2, none⟩ = some (.int .i64 x.key) ∧ w'.cell? ⟨b, off + k * 2 + 1, none⟩ = some (.string x.val) := by
  obtain ⟨b, off, x, cs, rfl, hb, hx, ⟨rfl, hw2⟩, hc⟩ := h.at_ hk
  exact ⟨b, off, x, rfl, hb, hx, hw2, (hw _ hb).trans (hc 0 _ rfl), (hw _ hb).trans (hc 1 _ rfl)⟩

set_option maxHeartbeats 8000000 in
set_option maxRecDepth 100000 in
theorem winfill_any (g : Nat) (S : Nat → Prop) (x : Win) (A : Option Addr) (n c : Nat) (l : List Row) (w : World) (hS : ∀ k, S k → k < w.heap.size) (h : WinOwn w S g x) (T : Nat → Prop) (hT : ∀ k, T k → S k) (hl : IsSl rowRep w T A n l) (hn : x.n ≤ 64) (hm : n ≤ maxLen) :
    Calls Try.prog 24 #[.pointer (some ⟨g, 0, none⟩), .slice A n c] w fun e w' => e = .returned (.bool (x.fillOk l)) ∧ WinOwn w' S g (x.filled l) ∧ Rest S w w' := by
  have H := Lib.hid h
  obtain ⟨rv, h⟩ := h
  obtain ⟨c0, c1, c2, c3, c4, c5, c6, c7, c8, cz⟩ := h.blk.c9
  have HA := Lib.hid h
  have HL := Lib.hid hl
  have HN := Lib.hid hl.len
  have hgl := h.lt
  clear h hl
  obtain ⟨xm, xa, xi, xt, xr, xc, xl, xn, xs⟩ := x
  dsimp only at c0 c1 c2 c3 c4 c5 c6 c7 c8 hn
  by_cases h0 : ¬ xs = 1
  · have HF := Lib.hid (show Win.fillOk ⟨xm, xa, xi, xt, xr, xc, xl, xn, xs⟩ l = false from by unfold Win.fillOk; dsimp only; rw [decide_eq_false (fun h => h0 h.1)]; rfl)
    have d0 : (xs == 1) = false := by simpa using h0
    have d0n : (xs != 1) = true := by simpa using h0
    have d0d : decide (xs = 1) = false := decide_eq_false h0
    clear h0
    go_enter Try.func24, Try.ntmps24
    go_wp2
    go_ret
    unfold Win.filled
    rw [HF.out]
    exact ⟨rfl, H.out, Rest.refl _ _⟩
  obtain rfl : xs = 1 := Classical.byContradiction h0
  clear h0
  by_cases h1 : ¬ ((n : Int) ≤ xn)
  · have HF := Lib.hid (show Win.fillOk ⟨xm, xa, xi, xt, xr, xc, xl, xn, 1⟩ l = false from by unfold Win.fillOk; dsimp only; rw [decide_eq_false (fun h => h1 (by rw [HN.out]; exact h.2))]; rfl)
    have d1 : decide (xn < (n : Int)) = true := decide_eq_true (by omega)
    clear h1
    go_enter Try.func24, Try.ntmps24
    go_wp2
    go_ret
    unfold Win.filled
    rw [HF.out]
    exact ⟨rfl, H.out, Rest.refl _ _⟩
  replace h1 : (n : Int) ≤ xn := Classical.byContradiction h1
  have d1 : decide (xn < (n : Int)) = false := decide_eq_false (by omega)
  have hn64 : n ≤ 64 := by omega
  have H1 := Lib.hid h1
  clear h1
  go_enter Try.func24, Try.ntmps24
  go_wp2_with fail
  go_loopw [5, 29] (fun k i wr => ∃ p : Nat, i = .int .i64 p ∧ p ≤ n ∧ k = .int .i64 (lastKey (l.take p) xa) ∧ rising xa (l.take p) = true ∧ Below w.heap.size w wr) (fun _ i _ => n - (intOf i).toNat)
  case atStart => exact ⟨0, rfl, Nat.zero_le _, by simp [lastKey_nil], by simp [rising], Below.refl _ _⟩
  case round =>
    obtain ⟨p, rfl, hp, rfl, hris, hbel⟩ := hrel
    have HR := Lib.hid hris
    have hsz := hbel.size
    have hTw : ∀ k, T k → k < w.heap.size := fun k hk => hS k (hT k hk)
    clear hris
    by_cases hlt : p < n
    · have hd : decide ((p : Int) < (n : Int)) = true := decide_eq_true (by omega)
      have hpi : (p : Int) < (n : Int) := by omega
      obtain ⟨b0, off, x, rfl, hbT, hx, hwf, k0, k1⟩ := HL.out.row hlt (fun q hq => hbel.cell (hTw _ hq))
      have HTK := Lib.hid (show l.take (p + 1) = l.take p ++ [x] from take_snoc hx)
      obtain ⟨xk, xv⟩ := x
      dsimp only at k0 k1
      obtain ⟨q, hq⟩ : ∃ q, q = lastKey (l.take p) xa := ⟨_, rfl⟩
      rw [← hq]
      have HQ := Lib.hid hq
      clear hq hx
      by_cases g1 : q < xk
      · have e1 : decide (xk ≤ q) = false := decide_eq_false (by omega)
        by_cases g2 : xk ≤ 1099511627776
        · have e2 : decide (1099511627776 < xk) = false := decide_eq_false (by omega)
          go_wp2
          go_roundw
          case rel => exact ⟨p + 1, by go_num, by omega, by rw [HTK.out, lastKey_snoc], by rw [HTK.out, rising_snoc, HR.out, ← HQ.out, decide_eq_true ⟨g1, g2⟩]; rfl, hbel.alloc hsz _⟩
          case measure => simp [intOf]; omega
        · have e2 : decide (1099511627776 < xk) = true := decide_eq_true (by omega)
          have HF := Lib.hid (show Win.fillOk ⟨xm, xa, xi, xt, xr, xc, xl, xn, 1⟩ l = false by
            unfold Win.fillOk
            dsimp only
            rw [rising_take (p := p + 1) (by rw [HTK.out, rising_snoc, HR.out, decide_eq_false (fun h => g2 h.2)]; rfl), Bool.and_false])
          go_wp2
          go_ret
          unfold Win.filled
          rw [HF.out]
          exact ⟨rfl, H.out.below (hbel.alloc hsz _), (Rest.refl S w).below hS (hbel.alloc hsz _)⟩
      · have e1 : decide (xk ≤ q) = true := decide_eq_true (by omega)
        have HF := Lib.hid (show Win.fillOk ⟨xm, xa, xi, xt, xr, xc, xl, xn, 1⟩ l = false by
          unfold Win.fillOk
          dsimp only
          rw [rising_take (p := p + 1) (by rw [HTK.out, rising_snoc, HR.out, ← HQ.out, decide_eq_false (fun h => g1 h.1)]; rfl), Bool.and_false])
        go_wp2
        go_ret
        unfold Win.filled
        rw [HF.out]
        exact ⟨rfl, H.out.below (hbel.alloc hsz _), (Rest.refl S w).below hS (hbel.alloc hsz _)⟩
    · obtain rfl : p = n := by omega
      have hd : decide ((p : Int) < (p : Int)) = false := by simp
      have HOK := Lib.hid (show Win.fillOk ⟨xm, xa, xi, xt, xr, xc, xl, xn, 1⟩ l = true by
        have := HR.out
        rw [List.take_of_length_le (by rw [← HN.out]; exact Nat.le_refl _)] at this
        unfold Win.fillOk
        dsimp only
        rw [this, decide_eq_true ⟨rfl, by rw [← HN.out]; exact H1.out⟩]
        rfl)
      have WA := Lib.hid (HA.out.below hbel)
      have HLr := Lib.hid (HL.out.keep (w' := wr) (fun q hq => hbel.cell (hTw _ hq)))
      obtain ⟨c0, c1, c2, c3, c4, c5, c6, c7, c8, cz⟩ := WA.out.blk.c9
      have hgr : g < wr.heap.size := WA.out.lt
      go_wp2_with (first
        | (go_at_call 61; (with_reducible refine (cloneR_any A p c l wr T (fun k hk => Nat.lt_of_lt_of_le (hTw k hk) hsz) HLr.out (by omega)).mono ?_); rintro e w2 ⟨v2, rfl, own2, bel2⟩; obtain ⟨Av, cv, rfl, _, _, _⟩ := own2.isSlB; have OW2 := Lib.hid own2; have WB := Lib.hid (WA.out.below bel2); have B2 := Lib.hid (hbel.trans (bel2.mono hsz)); obtain ⟨c0, c1, c2, c3, c4, c5, c6, c7, c8, cz⟩ := WB.out.blk.c9; clear own2 bel2)
        | fail)
      have hng := HA.out.ng
      have HRG := Lib.hid (show ∀ r, rowOf (.slice Av l.length cv) = some r → ¬ S r ∧ r ≠ g from fun r hr => ⟨fun hk => by have h1 := OW2.out.row_ge hr; have h2 := hS r hk; omega, fun e => by have h1 := OW2.out.row_ge hr; omega⟩)
      obtain ⟨W3, hW3⟩ : ∃ W3, W3 = (w2.setCell ⟨g, 4, none⟩ (.slice Av l.length cv)).setCell ⟨g, 8, none⟩ (.int .i64 2) := ⟨_, rfl⟩
      have K3 := Lib.hid (show Blk W3 g [.int .i64 xm, .int .i64 xa, .int .i64 xi, .int .i64 xt, .slice Av l.length cv, .int .i64 xc, .bool xl, .int .i64 xn, .int .i64 2] by
        rw [hW3]
        exact (WB.out.blk.put (j := 4) (by simp) _ rfl).put (j := 8) (by simp) _ rfl)
      have O3 := Lib.hid (show Own rowRep W3 0 (fun _ => False) 55 (.slice Av l.length cv) l by
        rw [hW3]
        exact ((OW2.out.mono (Nat.zero_le _)).setG (fun r hr => (HRG.out r hr).2) 4 _).setG (fun r hr => (HRG.out r hr).2) 8 _)
      have R3 := Lib.hid (show Rest S w W3 by
        rw [hW3]
        exact (((Rest.refl S w).below hS B2.out).set hng 4 _).set hng 8 _)
      rw [← hW3]
      clear hW3 c0 c1 c2 c3 c4 c5 c6 c7 c8 cz
      obtain ⟨c0, c1, c2', c3, c4, c5, c6, c7, c8, cz⟩ := K3.out.c9
      have HLd := Lib.hid (show IsSl rowRep W3.drew T A p l from (HL.out.rest R3.out hT).keep fun _ _ => rfl)
      have kA : ∀ v, (W3.setCell ⟨g, 5, none⟩ v).cell? ⟨g, 1, none⟩ = some (.int .i64 xa) ∧ (W3.setCell ⟨g, 5, none⟩ v).cell? ⟨g, 7, none⟩ = some (.int .i64 xn) := fun v => ⟨(World.cell?_setCell_other _ _ _ _ (by simp)).trans c1, (World.cell?_setCell_other _ _ _ _ (by simp)).trans c7⟩
      have kB : ∀ v, (W3.setCell ⟨g, 6, none⟩ v).cell? ⟨g, 1, none⟩ = some (.int .i64 xa) ∧ (W3.setCell ⟨g, 6, none⟩ v).cell? ⟨g, 7, none⟩ = some (.int .i64 xn) := fun v => ⟨(World.cell?_setCell_other _ _ _ _ (by simp)).trans c1, (World.cell?_setCell_other _ _ _ _ (by simp)).trans c7⟩
      have kAB : ∀ v u, ((W3.setCell ⟨g, 5, none⟩ v).setCell ⟨g, 6, none⟩ u).cell? ⟨g, 1, none⟩ = some (.int .i64 xa) ∧ ((W3.setCell ⟨g, 5, none⟩ v).setCell ⟨g, 6, none⟩ u).cell? ⟨g, 7, none⟩ = some (.int .i64 xn) := fun v u => ⟨(World.cell?_setCell_other _ _ _ _ (by simp)).trans (kA v).1, (World.cell?_setCell_other _ _ _ _ (by simp)).trans (kA v).2⟩
      have kBA : ∀ v u, ((W3.setCell ⟨g, 6, none⟩ v).setCell ⟨g, 5, none⟩ u).cell? ⟨g, 1, none⟩ = some (.int .i64 xa) ∧ ((W3.setCell ⟨g, 6, none⟩ v).setCell ⟨g, 5, none⟩ u).cell? ⟨g, 7, none⟩ = some (.int .i64 xn) := fun v u => ⟨(World.cell?_setCell_other _ _ _ _ (by simp)).trans (kB v).1, (World.cell?_setCell_other _ _ _ _ (by simp)).trans (kB v).2⟩
      go_region_held3 (fun w' => w'.cell? ⟨g, 1, none⟩ = some (.int .i64 xa) ∧ w'.cell? ⟨g, 7, none⟩ = some (.int .i64 xn)) (first | exact ⟨c1, c7⟩ | exact kA _ | exact kB _ | exact kAB _ _ | exact kBA _ _ | fail)
        (first
          | (go_at_call 62; (with_reducible refine (plan_any A p c l xa xn _ T HLd.out hm).mono ?_); rintro e w' ⟨rfl, rfl⟩)
          | fail)
      go_wp2
      go_ret
      unfold Win.filled
      rw [HOK.out]
      refine ⟨rfl, ⟨.slice Av l.length cv, ?_, ?_, hng, HRG.out⟩, ?_⟩
      · dsimp only
        rw [if_pos rfl, ← HN.out]
        rw [← HN.out] at K3
        exact ((K3.out.put (j := 5) (by simp) _ rfl).put (j := 6) (by simp) _ rfl).drew
      · rw [if_pos rfl]
        exact ((O3.out.setG (fun r hr => (HRG.out r hr).2) 5 _).setG (fun r hr => (HRG.out r hr).2) 6 _).drew
      · have r := (R3.out.set hng 5 (.int .i64 (lastKey l xa))).set hng 6 (.bool (decide ((p : Int) < xn)))
        exact ⟨r.os, r.tape, r.output, r.size, r.block⟩
end Go.Proofs.Ytojjeogpggielaa