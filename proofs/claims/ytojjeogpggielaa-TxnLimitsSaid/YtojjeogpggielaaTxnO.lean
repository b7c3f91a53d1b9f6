/- Contract: one transaction that may be, of any one. -/
import Derived.Test.YtojjeogpggielaaTxn17
import Derived.Test.YtojjeogpggielaaTxnRW
set_option linter.unusedVariables false
set_option linter.unusedSimpArgs false
namespace Go.Proofs.Ytojjeogpggielaa
open Go.RowKit

/-- The transaction that is made of any one. -/
def oneT (t : Txn) : Txn := ⟨1 + modOf t.lsn 1099511627776, (playTxn 8 0 t).kind, (playTxn 8 0 t).changes, (playTxn 8 0 t).signals, (playTxn 8 0 t).mark⟩

theorem playTxn_wf (t : Txn) : I64 (playTxn 8 0 t).kind ∧ I64 (playTxn 8 0 t).mark := by
  have r1 := modOf_range (t.kind.tdiv 9) 2 (by omega)
  have r2 := modOf_range t.mark 20 (by omega)
  unfold playTxn I64
  split
  · dsimp only; omega
  · dsimp only; omega

theorem oneT_may (t : Txn) : mayTxn (oneT t) = true := by
  have r1 := modOf_range (t.kind.tdiv 9) 2 (by omega)
  have r2 := modOf_range t.mark 20 (by omega)
  have r3 := modOf_range t.lsn 1099511627776 (by omega)
  have r0 : 1 ≤ 1 + modOf t.lsn 1099511627776 ∧ 1 + modOf t.lsn 1099511627776 ≤ 1099511627776 := by omega
  unfold mayTxn oneT playTxn
  split
  · dsimp only
    rw [decide_eq_true r0, if_neg (by omega), decide_eq_true ⟨by omega, by omega, by omega, rfl, rfl⟩]
    rfl
  · dsimp only
    rw [decide_eq_true r0, if_pos rfl]
    unfold mayCli
    dsimp only
    rw [decide_eq_true ⟨rfl, Nat.le_trans (playChgs_len 8 5 _) (by omega), playSigs_len 8 2 _⟩]
    have h1 : (playChgs ((8 : Nat) : Int) 5 t.changes).all (mayChg · 8) = true := by
      unfold playChgs
      rw [List.all_map, List.all_eq_true]
      intro c _
      exact playChg_may (t := ((8 : Nat) : Int)) (by decide)
    have h2 : (playSigs 8 2 t.signals).all (fun s => decide (s.size ≤ 40)) = true := by
      unfold playSigs
      rw [List.all_map, List.all_eq_true]
      intro s _
      exact decide_eq_true (playSig_size 8 s)
    rw [h1, h2]
    rfl

/-- What it answers: a transaction that lies somewhere. -/
def OneRes (t : Txn) (w : World) (e : Ending) (w' : World) : Prop :=
  ∃ A n c A2 n2 c2, e = .returned (.agg #[.int .i64 t.lsn, .int .i64 t.kind, .slice A n c, .slice A2 n2 c2, .int .i64 t.mark]) ∧ IsSl chgRep w' (· < w'.heap.size) A n t.changes ∧ n ≤ c ∧ c ≤ maxLen ∧ IsSl strRep w' (· < w'.heap.size) A2 n2 t.signals ∧ n2 ≤ c2 ∧ c2 ≤ maxLen ∧ Below w.heap.size w w'

theorem IsSl.txn0 {w : World} {S : Nat → Prop} {A : Option Addr} {x : Txn} (h : IsSl txnRep w S A 1 [x]) :
    ∃ b off A2 n2 c2 A3 n3 c3, A = some ⟨b, off, none⟩ ∧ S b ∧ w.cell? ⟨b, off, none⟩ = some (.int .i64 x.lsn) ∧ w.cell? ⟨b, off + 1, none⟩ = some (.int .i64 x.kind) ∧ w.cell? ⟨b, off + 2, none⟩ = some (.slice A2 n2 c2) ∧ w.cell? ⟨b, off + 3, none⟩ = some (.slice A3 n3 c3) ∧ w.cell? ⟨b, off + 4, none⟩ = some (.int .i64 x.mark) ∧ IsSl chgRep w S A2 n2 x.changes ∧ n2 ≤ c2 ∧ c2 ≤ maxLen ∧ IsSl strRep w S A3 n3 x.signals ∧ n3 ≤ c3 ∧ c3 ≤ maxLen := by
  obtain ⟨b, off, y, cs, rfl, hb, hx, ⟨v2, v3, rfl, i0, i1, i2, ⟨A2, n2, c2, h2, s2, l2, m2⟩, ⟨A3, n3, c3, h3, s3, l3, m3⟩⟩, hc⟩ := h.at_ (k := 0) (by omega)
  obtain rfl : v2 = .slice A2 n2 c2 := by simpa using h2
  obtain rfl : v3 = .slice A3 n3 c3 := by simpa using h3
  obtain rfl : y = x := by simpa using hx.symm
  have g0 := hc 0 _ rfl
  have g1 := hc 1 _ rfl
  have g2 := hc 2 _ rfl
  have g3 := hc 3 _ rfl
  have g4 := hc 4 _ rfl
  simp only [Nat.zero_mul, Nat.add_zero] at g0 g1 g2 g3 g4
  exact ⟨b, off, A2, n2, c2, A3, n3, c3, rfl, hb, g0, g1, g2, g3, g4, s2, l2, m2, s3, l3, m3⟩

theorem IsSl.keepAlloc {α : Type} {R : Rep α} {w : World} {S : Nat → Prop} {A : Option Addr} {n : Nat} {l : List α} (h : IsSl R w S A n l) (hS : ∀ b, S b → b < w.heap.size) (o : Obj) : IsSl R (w.alloc o) S A n l :=
  h.keep fun p hp => ((Below.refl w.heap.size w).alloc (Nat.le_refl _) o).cell (hS _ hp)

/-- .. behind an allocation, and five cells of another block that are set. -/
theorem IsSl.keep5 {α : Type} {R : Rep α} {w : World} {d : Nat} {A : Option Addr} {n : Nat} {l : List α} {B : Nat} (h : IsSl R w (fun b => d < b ∧ b < w.heap.size) A n l) (o : Obj) (v0 v1 v2 v3 v4 : Value) (hB : w.heap.size ≤ B) :
    IsSl R ((((((w.alloc o).setCell ⟨d, 0, none⟩ v0).setCell ⟨d, 1, none⟩ v1).setCell ⟨d, 2, none⟩ v2).setCell ⟨d, 3, none⟩ v3).setCell ⟨d, 4, none⟩ v4) (· < B) A n l := by
  have hd : ¬ (d < d ∧ d < w.heap.size) := fun h => Nat.lt_irrefl _ h.1
  exact ((((((h.keepAlloc (fun b hb => hb.2) o).keepSet hd 0 v0).keepSet hd 1 v1).keepSet hd 2 v2).keepSet hd 3 v3).keepSet hd 4 v4).weak fun b hb => Nat.lt_of_lt_of_le hb.2 hB

set_option maxRecDepth 100000 in
set_option maxHeartbeats 8000000 in
theorem one_any (t : Txn) (A : Option Addr) (n c : Nat) (A2 : Option Addr) (n2 c2 : Nat) (w : World) (h : IsSl chgRep w (· < w.heap.size) A n t.changes) (h1 : n ≤ c) (hm1 : c ≤ maxLen) (h2 : IsSl strRep w (· < w.heap.size) A2 n2 t.signals) (h3 : n2 ≤ c2) (hm3 : c2 ≤ maxLen) (hwl : I64 t.lsn ∧ I64 t.kind ∧ I64 t.mark) :
    Calls Try.prog 52 #[.agg #[.int .i64 t.lsn, .int .i64 t.kind, .slice A n c, .slice A2 n2 c2, .int .i64 t.mark]] w fun e w' => OneRes (oneT t) w e w' := by
  have H := Lib.hid h
  have H2 := Lib.hid h2
  have r3 := modOf_range t.lsn 1099511627776 (by omega)
  obtain ⟨W, hW⟩ : ∃ W, W = (w.alloc (.cells #[.int .i64 t.lsn, .int .i64 t.kind, .slice A n c, .slice A2 n2 c2, .int .i64 t.mark] 68)).alloc (.cells #[.int .i64 0, .int .i64 0, .slice none 0 0, .slice none 0 0, .int .i64 0] 68) := ⟨_, rfl⟩
  have BW : Below w.heap.size w W := by rw [hW]; exact bw2 _ _ _
  have K1 := Lib.hid ((Blk.new (w := w) (cs := #[.int .i64 t.lsn, .int .i64 t.kind, .slice A n c, .slice A2 n2 c2, .int .i64 t.mark]) (t := 68) rfl rfl).alloc (.cells #[.int .i64 0, .int .i64 0, .slice none 0 0, .slice none 0 0, .int .i64 0] 68))
  have K2 := Lib.hid (Blk.new (w := w.alloc (.cells #[.int .i64 t.lsn, .int .i64 t.kind, .slice A n c, .slice A2 n2 c2, .int .i64 t.mark] 68)) (cs := #[.int .i64 0, .int .i64 0, .slice none 0 0, .slice none 0 0, .int .i64 0]) (t := 68) rfl (n := w.heap.size + 1) (by simp))
  rw [← hW] at K1 K2
  obtain ⟨V, hV⟩ : ∃ V, V = W.alloc (.cells #[.int .i64 t.lsn, .int .i64 t.kind, .slice A n c, .slice A2 n2 c2, .int .i64 t.mark] 68) := ⟨_, rfl⟩
  have hWs : W.heap.size = w.heap.size + 2 := by rw [hW]; simp
  have hVs : V.heap.size = w.heap.size + 3 := by rw [hV]; simp; omega
  have BV : Below w.heap.size w V := by rw [hV]; exact BW.alloc (by omega) _
  have BWV : Below W.heap.size W V := by rw [hV]; exact (Below.refl _ _).alloc (Nat.le_refl _) _
  have L := Lib.hid (show IsSl txnRep V (· < V.heap.size) (some ⟨w.heap.size + 2, 0, none⟩) 1 [t] by
    rw [← hWs, hV]
    refine IsSl.new1 (cs := [.int .i64 t.lsn, .int .i64 t.kind, .slice A n c, .slice A2 n2 c2, .int .i64 t.mark]) ?_ (by simp)
    have e : W.alloc (.cells #[.int .i64 t.lsn, .int .i64 t.kind, .slice A n c, .slice A2 n2 c2, .int .i64 t.mark] 68) = V := hV.symm
    show txnRep.rel (W.alloc (.cells #[.int .i64 t.lsn, .int .i64 t.kind, .slice A n c, .slice A2 n2 c2, .int .i64 t.mark] 68)) _ t _
    rw [e]
    exact lies_mk hwl.1 hwl.2.1 hwl.2.2 ((h.below BV).more BV.size) h1 hm1 ((h2.below BV).more BV.size) h3 hm3)
  have K1V := Lib.hid (K1.out.after BWV)
  have K2V := Lib.hid (K2.out.after BWV)
  have HW := Lib.hid hW
  have HV := Lib.hid hV
  have BV' := Lib.hid BV
  clear hW hV BV BW BWV h h2
  go_enter Try.func52, Try.ntmps52
  go_wp2_with (first
    | (go_at_call 91; rw [← HW.out, ← HV.out]; (with_reducible refine (playTxns_any _ 1 1 [t] 8 8 rfl (by omega) (by omega) 1 1 rfl (by omega) V L.out).mono ?_); rintro e w3 ⟨v3, rfl, ⟨S, hS, own3⟩, bel3⟩; obtain ⟨A3, c3, rfl, hl3, hm4, sl3⟩ := own3.isSl (S' := fun b => w.heap.size + 3 ≤ b ∧ b < w3.heap.size) (fun b hb => ⟨by have := hS b hb; omega, own3.1 b hb⟩) (fun g a b => ⟨by omega, b⟩); rw [show playTxns 8 1 [t] = [playTxn 8 0 t] from rfl] at hl3 sl3 ⊢; obtain ⟨b, off, A4, n4, c4, A5, n5, c5, rfl, hb, k0, k1, k2, k3, k4, s4, l4, m4, s5, l5, m5⟩ := sl3.txn0; obtain ⟨t0, t1, t2, t3, t4, tz⟩ := ((K1V.out.after bel3).alloc (.cells #[.int .i64 (playTxn 8 0 t).lsn, .int .i64 (playTxn 8 0 t).kind, .slice A4 n4 c4, .slice A5 n5 c5, .int .i64 (playTxn 8 0 t).mark] 68)).c5; have UX := Lib.hid ((K2V.out.after bel3).alloc (.cells #[.int .i64 (1 + modOf t.lsn 1099511627776), .int .i64 (playTxn 8 0 t).kind, .slice A4 n4 c4, .slice A5 n5 c5, .int .i64 (playTxn 8 0 t).mark] 68)); obtain ⟨s0, s1, s2, s3, s4', sz⟩ := UX.out.c5; have B3 := Lib.hid (BV'.out.trans (bel3.mono (by omega))); have S4 := Lib.hid s4; have S5 := Lib.hid s5; have hs3 : w.heap.size + 3 ≤ w3.heap.size := (by have := bel3.size; omega); have e1 : (w.heap.size = w3.heap.size) = False := (by simp; omega); have e2 : (w.heap.size + 1 = w3.heap.size) = False := (by simp; omega); have e3 : (w3.heap.size = w.heap.size + 1) = False := (by simp; omega); have hbb := hb; clear own3 sl3 hS bel3 s4 s5)
    | (go_at_call 19; (with_reducible refine (big_any t.lsn 1099511627776 _ (by omega) (by omega)).mono ?_); rintro e w' ⟨rfl, rfl⟩)
    | fail)
  have n1 : (w.heap.size + 1 = w3.heap.size) = False := by simp; omega
  refine bodyPost_ret (by simp [results, Try.results52, go_sem, s0, s1, s2, s3, s4', n1]; try rfl) rfl ?_
  refine ⟨A4, n4, c4, A5, n5, c5, rfl, ?_, l4, m4, ?_, l5, m5, ?_⟩
  · exact (S4.out.weak fun b hb => ⟨by omega, hb.2⟩).keep5 (d := w.heap.size + 1) _ _ _ _ _ _ (by simp)
  · exact (S5.out.weak fun b hb => ⟨by omega, hb.2⟩).keep5 (d := w.heap.size + 1) _ _ _ _ _ _ (by simp)
  · exact (((((B3.out.alloc (by omega) _).setCell (by simp) _).setCell (by simp) _).setCell (by simp) _).setCell (by simp) _).setCell (by simp) _
end Go.Proofs.Ytojjeogpggielaa
