/- Contracts: help's Txn on equal transactions, the statements' awake. -/
import Derived.Test.YtojjeogpggielaaTxn13
set_option linter.unusedVariables false
set_option linter.unusedSimpArgs false
namespace Go.Proofs.Ytojjeogpggielaa
open Go.RowKit

theorem bw2 (w : World) (o o' : Obj) : Below w.heap.size w ((w.alloc o).alloc o') := ((Below.refl _ _).alloc (Nat.le_refl _) _).alloc (by simp) _

set_option maxRecDepth 100000 in
set_option maxHeartbeats 2000000 in
theorem sametxn_any (t : Txn) (A : Option Addr) (n c : Nat) (A2 : Option Addr) (n2 c2 : Nat) (B : Option Addr) (m d : Nat) (B2 : Option Addr) (m2 d2 : Nat) (w : World) (h1 : IsSl chgRep w (· < w.heap.size) A n t.changes) (h2 : IsSl strRep w (· < w.heap.size) A2 n2 t.signals) (h3 : IsSl chgRep w (· < w.heap.size) B m t.changes) (h4 : IsSl strRep w (· < w.heap.size) B2 m2 t.signals) (hn : n ≤ 281474976710656) (hn2 : n2 ≤ 281474976710656) :
    Calls Try.prog 54 #[.agg #[.int .i64 t.lsn, .int .i64 t.kind, .slice A n c, .slice A2 n2 c2, .int .i64 t.mark], .agg #[.int .i64 t.lsn, .int .i64 t.kind, .slice B m d, .slice B2 m2 d2, .int .i64 t.mark]] w fun e w' => e = .returned (.bool true) ∧ Below w.heap.size w w' := by
  have H1 := Lib.hid h1
  have H2 := Lib.hid h2
  have H3 := Lib.hid h3
  have H4 := Lib.hid h4
  obtain ⟨W, hW⟩ : ∃ W, W = (w.alloc (.cells #[.int .i64 t.lsn, .int .i64 t.kind, .slice A n c, .slice A2 n2 c2, .int .i64 t.mark] 68)).alloc (.cells #[.int .i64 t.lsn, .int .i64 t.kind, .slice B m d, .slice B2 m2 d2, .int .i64 t.mark] 68) := ⟨_, rfl⟩
  have BW := Lib.hid (show Below w.heap.size w W by rw [hW]; exact bw2 _ _ _)
  have K1 := Lib.hid ((Blk.new (w := w) (cs := #[.int .i64 t.lsn, .int .i64 t.kind, .slice A n c, .slice A2 n2 c2, .int .i64 t.mark]) (t := 68) rfl rfl).alloc (.cells #[.int .i64 t.lsn, .int .i64 t.kind, .slice B m d, .slice B2 m2 d2, .int .i64 t.mark] 68))
  have K2 := Lib.hid (Blk.new (w := w.alloc (.cells #[.int .i64 t.lsn, .int .i64 t.kind, .slice A n c, .slice A2 n2 c2, .int .i64 t.mark] 68)) (cs := #[.int .i64 t.lsn, .int .i64 t.kind, .slice B m d, .slice B2 m2 d2, .int .i64 t.mark]) (t := 68) rfl (n := w.heap.size + 1) (by simp))
  rw [← hW] at K1 K2
  have HW := Lib.hid hW
  clear hW h1 h2 h3 h4
  go_enter Try.func54, Try.ntmps54
  go_wp2_with (first
    | (go_at_call 99; rw [← HW.out]; (with_reducible refine (plain_chg _ _ _ _ _ _ t.changes _ ((H1.out.below BW.out).more BW.out.size) ((H3.out.below BW.out).more BW.out.size) hn).mono ?_); rintro e w3 ⟨rfl, bel3⟩; obtain ⟨c0, c1, c2, c3, c4, cz⟩ := (K1.out.after bel3).c5; obtain ⟨d0, d1, d2, d3, d4, dz⟩ := (K2.out.after bel3).c5; have B3 := Lib.hid (BW.out.trans (bel3.mono BW.out.size)); clear bel3)
    | (go_at_call 100; (with_reducible refine (plain_str _ _ _ _ _ _ t.signals _ ((H2.out.below B3.out).more B3.out.size) ((H4.out.below B3.out).more B3.out.size) hn2).mono ?_); rintro e w4 ⟨rfl, bel4⟩; have B4 := Lib.hid (B3.out.trans (bel4.mono B3.out.size)); clear bel4)
    | fail)
  go_ret
  exact ⟨rfl, B4.out⟩

theorem encT1 : encTE ⟨1, 1, [], [], 0⟩ = 0 ∧ (encTV ⟨1, 1, [], [], 0⟩).length = 47 := by decide +kernel
theorem decT1 : decTE (encTV ⟨1, 1, [], [], 0⟩) = 0 := by decide +kernel
theorem decT2 : decTV (encTV ⟨1, 1, [], [], 0⟩) = ⟨1, 1, [], [], 0⟩ := by kernel_rfl
theorem mayT1 : mayTxn ⟨1, 1, [], [], 0⟩ = true := by decide +kernel
theorem mayT0 : mayTxn ⟨0, 0, [], [], 0⟩ = false := by decide +kernel

set_option maxRecDepth 100000 in
set_option maxHeartbeats 4000000 in
theorem awake07_any (w : World) : Calls Try.prog 44 #[] w fun e w' => e = .returned (.bool true) ∧ Below w.heap.size w w' := by
  have HI := Lib.hid (show I64 1 ∧ I64 1 ∧ I64 0 by unfold I64; omega)
  have BW := Lib.hid ((Below.refl w.heap.size w).alloc (Nat.le_refl _) (.cells #[.int .i64 1, .int .i64 1, .slice none 0 0, .slice none 0 0, .int .i64 0] 68))
  have T1 := Lib.hid (Blk.new (w := w) (cs := #[.int .i64 1, .int .i64 1, .slice none 0 0, .slice none 0 0, .int .i64 0]) (t := 68) rfl rfl)
  go_enter Try.func44, Try.ntmps44
  go_wp2_with (first
    | (go_at_call 45; (with_reducible refine (txnEncode_any ⟨1, 1, [], [], 0⟩ none 0 0 none 0 0 _ IsSl.nil IsSl.nil HI.out).mono ?_); rintro e w2 ⟨v2, rfl, own2, bel2⟩; rw [encT1.1]; obtain ⟨A2, c2, rfl, hl2, hm2, sl2⟩ := own2.isSlB; rw [encT1.2] at sl2 hl2 ⊢; have SL2 := Lib.hid sl2; have T2 := Lib.hid (T1.out.after bel2); obtain ⟨t0, t1, t2, t3, t4, tz⟩ := T2.out.c5; have B2 := Lib.hid (BW.out.trans (bel2.mono BW.out.size)); clear own2 sl2 bel2)
    | (go_at_call 53; (with_reducible refine (txnDecode_any A2 47 c2 (encTV ⟨1, 1, [], [], 0⟩) _ SL2.out hl2 hm2).mono ?_); rintro e w3 ⟨A3, n3, c3, A4, n4, c4, rfl, s3, _, _, s4, _, _, bel3⟩; rw [decT1, decT2]; rw [decT2] at s3 s4; dsimp only at s3 s4 ⊢; obtain rfl : n3 = 0 := s3.len; obtain rfl : n4 = 0 := s4.len; have T3 := Lib.hid ((T2.out.after bel3).alloc (.cells #[.int .i64 1, .int .i64 1, .slice A3 0 c3, .slice A4 0 c4, .int .i64 0] 68)); have U3 := Lib.hid (Blk.new (w := w3) (cs := #[.int .i64 1, .int .i64 1, .slice A3 0 c3, .slice A4 0 c4, .int .i64 0]) (t := 68) rfl rfl); have B3 := Lib.hid ((B2.out.trans (bel3.mono B2.out.size)).alloc (Nat.le_trans B2.out.size bel3.size) (.cells #[.int .i64 1, .int .i64 1, .slice A3 0 c3, .slice A4 0 c4, .int .i64 0] 68)); obtain ⟨t0, t1, t2, t3, t4, tz⟩ := T3.out.c5; clear s3 s4 bel3)
    | (go_at_call 47; (with_reducible refine (may_any ⟨1, 1, [], [], 0⟩ none 0 0 none 0 0 _ IsSl.nil IsSl.nil).mono ?_); rintro e w4 ⟨rfl, bel4⟩; rw [mayT1]; have T4 := Lib.hid (T3.out.after bel4); have U4 := Lib.hid (U3.out.after bel4); have B4 := Lib.hid (B3.out.trans (bel4.mono B3.out.size)); clear bel4)
    | (go_at_call 47; (with_reducible refine (may_any ⟨0, 0, [], [], 0⟩ none 0 0 none 0 0 _ IsSl.nil IsSl.nil).mono ?_); rintro e w5 ⟨rfl, bel5⟩; rw [mayT0]; obtain ⟨t0, t1, t2, t3, t4, tz⟩ := (T4.out.after bel5).c5; obtain ⟨u0, u1, u2, u3, u4, uz⟩ := (U4.out.after bel5).c5; have B5 := Lib.hid (B4.out.trans (bel5.mono B4.out.size)); clear bel5)
    | (go_at_call 54; (with_reducible refine (sametxn_any ⟨1, 1, [], [], 0⟩ none 0 0 none 0 0 _ 0 _ _ 0 _ _ IsSl.nil IsSl.nil IsSl.nil IsSl.nil (by omega) (by omega)).mono ?_); rintro e w6 ⟨rfl, bel6⟩; have B6 := Lib.hid (B5.out.trans (bel6.mono B5.out.size)); clear bel6)
    | fail)
  go_ret
  exact ⟨rfl, B6.out⟩
end Go.Proofs.Ytojjeogpggielaa
