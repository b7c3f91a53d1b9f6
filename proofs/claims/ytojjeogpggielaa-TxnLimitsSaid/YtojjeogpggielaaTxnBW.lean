/- The walk of the law TxnBack. -/
import Derived.Test.YtojjeogpggielaaTxnO
set_option linter.unusedVariables false
set_option linter.unusedSimpArgs false
namespace Go.Proofs.Ytojjeogpggielaa
open Go.RowKit

/-- A transaction that lies in memory. -/
structure Lies (w : World) (t : Txn) (A : Option Addr) (n c : Nat) (A2 : Option Addr) (n2 c2 : Nat) : Prop where
  s : IsSl chgRep w (· < w.heap.size) A n t.changes
  l : n ≤ c
  m : c ≤ maxLen
  s2 : IsSl strRep w (· < w.heap.size) A2 n2 t.signals
  l2 : n2 ≤ c2
  m2 : c2 ≤ maxLen

theorem Lies.after {w w' : World} {t : Txn} {A : Option Addr} {n c : Nat} {A2 : Option Addr} {n2 c2 : Nat} (h : Lies w t A n c A2 n2 c2) (hb : Below w.heap.size w w') : Lies w' t A n c A2 n2 c2 :=
  ⟨(h.s.below hb).more hb.size, h.l, h.m, (h.s2.below hb).more hb.size, h.l2, h.m2⟩
theorem Lies.alloc {w : World} {t : Txn} {A : Option Addr} {n c : Nat} {A2 : Option Addr} {n2 c2 : Nat} (h : Lies w t A n c A2 n2 c2) (o : Obj) : Lies (w.alloc o) t A n c A2 n2 c2 := h.after ((Below.refl _ _).alloc (Nat.le_refl _) o)
theorem Lies.small {w : World} {t : Txn} {A : Option Addr} {n c : Nat} {A2 : Option Addr} {n2 c2 : Nat} (h : Lies w t A n c A2 n2 c2) (ht : t.changes.length ≤ 16 ∧ t.signals.length ≤ 2) : n ≤ 281474976710656 ∧ n2 ≤ 281474976710656 := by
  have := h.s.len
  have := h.s2.len
  omega
theorem IsSl.afterB {α : Type} {R : Rep α} {w w' : World} {A : Option Addr} {n : Nat} {l : List α} (h : IsSl R w (· < w.heap.size) A n l) (hb : Below w.heap.size w w') : IsSl R w' (· < w'.heap.size) A n l := (h.below hb).more hb.size
theorem IsSl.allocB {α : Type} {R : Rep α} {w : World} {A : Option Addr} {n : Nat} {l : List α} (h : IsSl R w (· < w.heap.size) A n l) (o : Obj) : IsSl R (w.alloc o) (· < (w.alloc o).heap.size) A n l := h.afterB ((Below.refl _ _).alloc (Nat.le_refl _) o)
theorem below_next {w w1 w2 : World} (h : Below w.heap.size w w1) (h' : Below w1.heap.size w1 w2) : Below w.heap.size w w2 := h.trans (h'.mono h.size)
theorem below_allocB {w w1 : World} (h : Below w.heap.size w w1) (o : Obj) : Below w.heap.size w (w1.alloc o) := h.alloc h.size o

theorem txn_arg {w : World} {t : Txn} {cs : Array Value} (s : txnRep.rel w (· < w.heap.size) t cs.toList) : ∃ A n c A2 n2 c2, cs = #[.int .i64 t.lsn, .int .i64 t.kind, .slice A n c, .slice A2 n2 c2, .int .i64 t.mark] ∧ Lies w t A n c A2 n2 c2 ∧ (I64 t.lsn ∧ I64 t.kind ∧ I64 t.mark) := by
  obtain ⟨v2, v3, hcs, i0, i1, i2, ⟨A, n, c, h2, sl, hc, hm⟩, ⟨A2, n2, c2, h3, sl2, hc2, hm2⟩⟩ := s
  obtain rfl : v2 = .slice A n c := by simpa using h2
  obtain rfl : v3 = .slice A2 n2 c2 := by simpa using h3
  exact ⟨A, n, c, A2, n2, c2, by rw [← Array.toArray_toList (xs := cs), hcs], ⟨sl, hc, hm, sl2, hc2, hm2⟩, i0, i1, i2⟩

theorem u8_of {m : Int} (hm : (Lit.int .u8 m).wf = true) : ∃ mb : UInt8, m = (mb.toNat : Int) := by
  simp [Lit.wf, IntKind.min, IntKind.max, IntKind.bits, IntKind.signed] at hm
  refine ⟨UInt8.ofNat m.toNat, ?_⟩
  rw [UInt8.toNat_ofNat']
  omega

theorem oneT_wf (t : Txn) : I64 (oneT t).lsn ∧ I64 (oneT t).kind ∧ I64 (oneT t).mark := by
  have r3 := modOf_range t.lsn 1099511627776 (by omega)
  exact ⟨by unfold oneT I64; dsimp only; omega, playTxn_wf t⟩

set_option maxRecDepth 100000 in
set_option maxHeartbeats 8000000 in
theorem txnBack_walk (w : World) (t : Txn) (cs0 : Array Value) (s0 : txnRep.rel w (· < w.heap.size) t cs0.toList) (m : Int) (hm : (Lit.int .u8 m).wf = true) :
    Calls Try.prog 11 #[.agg cs0, .int .u8 m] w fun e w' => e = .returned (.bool true) ∧ Below w.heap.size w w' := by
  obtain ⟨i0, hi, hz0, hz1, hz2⟩ := info_parts info_byte
  obtain ⟨mb, rfl⟩ := u8_of hm
  obtain ⟨A, n, c, A2, n2, c2, rfl, hL, hwl⟩ := txn_arg s0
  have L0 := Lib.hid (hL.alloc (.cells #[.int .i64 (t).lsn, .int .i64 (t).kind, .slice A n c, .slice A2 n2 c2, .int .i64 (t).mark] 68))
  have HWL := Lib.hid hwl
  have B0 := Lib.hid (below_allocB (Below.refl w.heap.size w) (.cells #[.int .i64 (t).lsn, .int .i64 (t).kind, .slice A n c, .slice A2 n2 c2, .int .i64 (t).mark] 68))
  obtain ⟨x, hx⟩ : ∃ x, x = oneT t := ⟨_, rfl⟩
  have hmay := oneT_may t
  have hwx := oneT_wf t
  rw [← hx] at hmay hwx
  have HX := Lib.hid hx
  have HWX := Lib.hid hwx
  obtain ⟨e0, e1, e2, e3, e4, e5, e6⟩ := decT_enc hmay
  have hsm := mayTxn_parts hmay
  have HSM := Lib.hid (show x.changes.length ≤ 16 ∧ x.signals.length ≤ 2 from ⟨hsm.2.2.2.2.2.2.1, hsm.2.2.2.2.2.2.2.1⟩)
  obtain ⟨B, hB⟩ : ∃ B, B = encTV x := ⟨_, rfl⟩
  obtain ⟨N, hN⟩ : ∃ N, N = B.length := ⟨_, rfl⟩
  rw [← hB, ← hN] at e1 e2
  rw [← hB] at e3 e4 e5 e6
  rw [← hN] at e5
  have E0 := Lib.hid e0
  have HB := Lib.hid hB
  have HN := Lib.hid hN
  have HN1 := Lib.hid (show (B ++ [mb]).length = N + 1 by rw [List.length_append, hN]; rfl)
  have E3 := Lib.hid e3
  have E4 := Lib.hid e4
  have E5 := Lib.hid (e5 (N - 1) (by omega))
  have E6 := Lib.hid (e6 mb)
  have hn1 : ((N : Int) == 0) = false := by simp; omega
  have hn2 : ((N - 1 : Nat) : Int) = (N : Int) - 1 := by omega
  clear hm hx hmay hwx hsm e0 e3 e4 e5 e6 hB hN s0 hL hwl
  go_enter Try.func11, Try.ntmps11
  go_wp2_with (first
    | (go_at_call 52; (with_reducible refine (one_any t A n c A2 n2 c2 _ L0.out.s L0.out.l L0.out.m L0.out.s2 L0.out.l2 L0.out.m2 HWL.out).mono ?_); rintro e w1 ⟨Ax, nx, cx, Ay, ny, cy, rfl, sx, lx, mx, sy, ly, my, bel1⟩; rw [← HX.out] at sx sy ⊢; have LX := Lib.hid (Lies.alloc ⟨sx, lx, mx, sy, ly, my⟩ (.cells #[.int .i64 (x).lsn, .int .i64 (x).kind, .slice Ax nx cx, .slice Ay ny cy, .int .i64 (x).mark] 68)); have TX := Lib.hid (Blk.new (w := w1) (cs := #[.int .i64 (x).lsn, .int .i64 (x).kind, .slice Ax nx cx, .slice Ay ny cy, .int .i64 (x).mark]) (t := 68) rfl rfl); have B1 := Lib.hid (below_allocB (below_next B0.out bel1) (.cells #[.int .i64 (x).lsn, .int .i64 (x).kind, .slice Ax nx cx, .slice Ay ny cy, .int .i64 (x).mark] 68)); clear sx sy bel1)
    | (go_at_call 45; (with_reducible refine (txnEncode_any x Ax nx cx Ay ny cy _ LX.out.s LX.out.s2 HWX.out).mono ?_); rintro e w2 ⟨v2, rfl, own2, bel2⟩; rw [E0.out]; rw [← HB.out] at own2; obtain ⟨Ab, cb, rfl, hlb, hcb, slb⟩ := own2.isSlB; rw [← HN.out] at hlb slb ⊢; have SB2 := Lib.hid slb; have LX2 := Lib.hid (LX.out.after bel2); have TX2 := Lib.hid (TX.out.after bel2); have B2 := Lib.hid (below_next B1.out bel2); clear own2 slb bel2)
    | (go_at_call 44; (with_reducible refine (awake07_any _).mono ?_); rintro e w3 ⟨rfl, bel3⟩; have SB3 := Lib.hid (SB2.out.afterB bel3); have LX3 := Lib.hid (LX2.out.after bel3); have TX3 := Lib.hid (TX2.out.after bel3); have B3 := Lib.hid (below_next B2.out bel3); clear bel3)
    | (go_at_call 53; (with_reducible refine (txnDecode_any Ab N cb B _ SB3.out hlb hcb).mono ?_); rintro e w4 ⟨A4, n4, c4, A5, n5, c5, rfl, s4, l4, m4, s5, l5, m5, bel4⟩; rw [E3.out, E4.out]; rw [E4.out] at s4 s5; have LY4 := Lib.hid (Lies.alloc ⟨s4, l4, m4, s5, l5, m5⟩ (.cells #[.int .i64 (x).lsn, .int .i64 (x).kind, .slice A4 n4 c4, .slice A5 n5 c5, .int .i64 (x).mark] 68)); have TY4 := Lib.hid (Blk.new (w := w4) (cs := #[.int .i64 (x).lsn, .int .i64 (x).kind, .slice A4 n4 c4, .slice A5 n5 c5, .int .i64 (x).mark]) (t := 68) rfl rfl); have LX4 := Lib.hid ((LX3.out.after bel4).alloc (.cells #[.int .i64 (x).lsn, .int .i64 (x).kind, .slice A4 n4 c4, .slice A5 n5 c5, .int .i64 (x).mark] 68)); have TX4 := Lib.hid ((TX3.out.after bel4).alloc (.cells #[.int .i64 (x).lsn, .int .i64 (x).kind, .slice A4 n4 c4, .slice A5 n5 c5, .int .i64 (x).mark] 68)); have SB4 := Lib.hid ((SB3.out.afterB bel4).allocB (.cells #[.int .i64 (x).lsn, .int .i64 (x).kind, .slice A4 n4 c4, .slice A5 n5 c5, .int .i64 (x).mark] 68)); have B4 := Lib.hid (below_allocB (below_next B3.out bel4) (.cells #[.int .i64 (x).lsn, .int .i64 (x).kind, .slice A4 n4 c4, .slice A5 n5 c5, .int .i64 (x).mark] 68)); clear s4 s5 bel4)
    | (go_at_call 53; rw [← hn2]; (with_reducible refine (txnDecode_any Ab (N - 1) cb (B.take (N - 1)) _ (SB4.out.cutTo (hi := N - 1) (by omega)) (by omega) hcb).mono ?_); rintro e w5 ⟨A6, n6, c6, A7, n7, c7, rfl, _, _, _, _, _, _, bel5⟩; rw [E5.out]; have LY5 := Lib.hid ((LY4.out.after bel5).alloc (.cells #[.int .i64 (decTV (B.take (N - 1))).lsn, .int .i64 (decTV (B.take (N - 1))).kind, .slice A6 n6 c6, .slice A7 n7 c7, .int .i64 (decTV (B.take (N - 1))).mark] 68)); have LX5 := Lib.hid ((LX4.out.after bel5).alloc (.cells #[.int .i64 (decTV (B.take (N - 1))).lsn, .int .i64 (decTV (B.take (N - 1))).kind, .slice A6 n6 c6, .slice A7 n7 c7, .int .i64 (decTV (B.take (N - 1))).mark] 68)); have TX5 := Lib.hid ((TX4.out.after bel5).alloc (.cells #[.int .i64 (decTV (B.take (N - 1))).lsn, .int .i64 (decTV (B.take (N - 1))).kind, .slice A6 n6 c6, .slice A7 n7 c7, .int .i64 (decTV (B.take (N - 1))).mark] 68)); have TY5 := Lib.hid ((TY4.out.after bel5).alloc (.cells #[.int .i64 (decTV (B.take (N - 1))).lsn, .int .i64 (decTV (B.take (N - 1))).kind, .slice A6 n6 c6, .slice A7 n7 c7, .int .i64 (decTV (B.take (N - 1))).mark] 68)); have SB5 := Lib.hid ((SB4.out.afterB bel5).allocB (.cells #[.int .i64 (decTV (B.take (N - 1))).lsn, .int .i64 (decTV (B.take (N - 1))).kind, .slice A6 n6 c6, .slice A7 n7 c7, .int .i64 (decTV (B.take (N - 1))).mark] 68)); have B5 := Lib.hid (below_allocB (below_next B4.out bel5) (.cells #[.int .i64 (decTV (B.take (N - 1))).lsn, .int .i64 (decTV (B.take (N - 1))).kind, .slice A6 n6 c6, .slice A7 n7 c7, .int .i64 (decTV (B.take (N - 1))).mark] 68)); clear bel5)
    | (at_builtin; refine wpList_append_Own _ rfl _ _ 84 rfl (w5.alloc (.cells #[.int .i64 (decTV (B.take (N - 1))).lsn, .int .i64 (decTV (B.take (N - 1))).kind, .slice A6 n6 c6, .slice A7 n7 c7, .int .i64 (decTV (B.take (N - 1))).mark] 68)).heap.size 5 i0 _ 1 Try.underlying84 hi hz0 hz1 hz2 rfl (R := byteRep) (S := fun _ => False) (l := []) (l' := B) (.slice (some ⟨w5.heap.size + 1, 0, none⟩) 0 0) rfl (Own.nil _ _ _ (fun _ h => h.elim) _ _) Ab N cb rfl (SB5.out.srcF flat_byte ((Below.refl _ _).alloc (Nat.le_refl _) _)) (by simp [maxLen]; omega) (by simp; omega) (by omega) (by simp) ?_; intro v8 w8 own8 gr8 at8; have bel8 := ((Below.refl (w5.alloc (.cells #[.int .i64 (decTV (B.take (N - 1))).lsn, .int .i64 (decTV (B.take (N - 1))).kind, .slice A6 n6 c6, .slice A7 n7 c7, .int .i64 (decTV (B.take (N - 1))).mark] 68)).heap.size (w5.alloc (.cells #[.int .i64 (decTV (B.take (N - 1))).lsn, .int .i64 (decTV (B.take (N - 1))).kind, .slice A6 n6 c6, .slice A7 n7 c7, .int .i64 (decTV (B.take (N - 1))).mark] 68))).alloc (Nat.le_refl _) _).grown gr8 (by simp) (by intro k hk; simp [rowOf] at hk); simp only [List.nil_append] at own8; have OW8 := Lib.hid own8; have BL8 := Lib.hid bel8; clear gr8 at8 own8 bel8)
    | (at_builtin; refine wpList_append_Own _ rfl _ _ 84 rfl (w5.alloc (.cells #[.int .i64 (decTV (B.take (N - 1))).lsn, .int .i64 (decTV (B.take (N - 1))).kind, .slice A6 n6 c6, .slice A7 n7 c7, .int .i64 (decTV (B.take (N - 1))).mark] 68)).heap.size 5 i0 _ 1 Try.underlying84 hi hz0 hz1 hz2 rfl (R := byteRep) (S := fun _ => False) (l := B) (l' := [mb]) v8 rfl (OW8.out.alloc _) _ 1 1 rfl (Src.new ⟨rfl, trivial⟩) (by rw [← HN.out]; simp [maxLen]; omega) (by rw [← HN.out]; omega) (by omega) (by have := BL8.out.size; simp at this; simp; omega) ?_; intro v9 w9 own9 gr9 at9; have bel9 := (BL8.out.alloc BL8.out.size _).grown gr9 (by have := BL8.out.size; simp at this; simp; omega) (fun g hg => OW8.out.row_ge hg); obtain ⟨A9, c9, rfl, hlc9, hcm9, sl9⟩ := own9.isSlB; rw [HN1.out] at hlc9 sl9 ⊢; have SL9 := Lib.hid sl9; have LX9 := Lib.hid (LX5.out.after bel9); have LY9 := Lib.hid (LY5.out.after bel9); have TX9 := Lib.hid (TX5.out.after bel9); have TY9 := Lib.hid (TY5.out.after bel9); have B9 := Lib.hid (below_next B5.out bel9); clear gr9 at9 own9 sl9 bel9)
    | (go_at_call 53; (with_reducible refine (txnDecode_any A9 (N + 1) c9 (B ++ [mb]) _ SL9.out hlc9 hcm9).mono ?_); rintro e w6 ⟨A10, n10, c10, A11, n11, c11, rfl, _, _, _, _, _, _, bel6⟩; rw [E6.out]; have LX6 := Lib.hid ((LX9.out.after bel6).alloc (.cells #[.int .i64 (decTV (B ++ [mb])).lsn, .int .i64 (decTV (B ++ [mb])).kind, .slice A10 n10 c10, .slice A11 n11 c11, .int .i64 (decTV (B ++ [mb])).mark] 68)); have LY6 := Lib.hid ((LY9.out.after bel6).alloc (.cells #[.int .i64 (decTV (B ++ [mb])).lsn, .int .i64 (decTV (B ++ [mb])).kind, .slice A10 n10 c10, .slice A11 n11 c11, .int .i64 (decTV (B ++ [mb])).mark] 68)); have TX6 := Lib.hid ((TX9.out.after bel6).alloc (.cells #[.int .i64 (decTV (B ++ [mb])).lsn, .int .i64 (decTV (B ++ [mb])).kind, .slice A10 n10 c10, .slice A11 n11 c11, .int .i64 (decTV (B ++ [mb])).mark] 68)); have TY6 := Lib.hid ((TY9.out.after bel6).alloc (.cells #[.int .i64 (decTV (B ++ [mb])).lsn, .int .i64 (decTV (B ++ [mb])).kind, .slice A10 n10 c10, .slice A11 n11 c11, .int .i64 (decTV (B ++ [mb])).mark] 68)); have B6 := Lib.hid (below_allocB (below_next B9.out bel6) (.cells #[.int .i64 (decTV (B ++ [mb])).lsn, .int .i64 (decTV (B ++ [mb])).kind, .slice A10 n10 c10, .slice A11 n11 c11, .int .i64 (decTV (B ++ [mb])).mark] 68)); obtain ⟨t0, t1, t2, t3, t4, tz⟩ := TX6.out.c5; obtain ⟨q0, q1, q2, q3, q4, qz⟩ := TY6.out.c5; clear bel6)
    | (go_at_call 54; (with_reducible refine (sametxn_any x Ax nx cx Ay ny cy A4 n4 c4 A5 n5 c5 _ LX6.out.s LX6.out.s2 LY6.out.s LY6.out.s2 (LX6.out.small HSM.out).1 (LX6.out.small HSM.out).2).mono ?_); rintro e w7 ⟨rfl, bel7⟩; have B7 := Lib.hid (below_next B6.out bel7); clear bel7)
    | fail)
  go_ret
  exact ⟨rfl, B7.out⟩
end Go.Proofs.Ytojjeogpggielaa
