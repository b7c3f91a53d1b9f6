/- The walk of the law TxnTurned. -/
import Derived.Test.YtojjeogpggielaaTxnBW
set_option linter.unusedVariables false
set_option linter.unusedSimpArgs false
namespace Go.Proofs.Ytojjeogpggielaa
open Go.RowKit

theorem u8_add (x y : UInt8) : ((x.toNat : Int) + (y.toNat : Int)) % 256 = ((x + y).toNat : Int) := by
  rw [UInt8.toNat_add]
  omega

theorem decTV_wf (b : List UInt8) : I64 (decTV b).lsn ∧ I64 (decTV b).kind ∧ I64 (decTV b).mark := by
  rcases decT_cases b with ⟨_, t, _, hm, h1, _⟩ | ⟨h1, _⟩
  · rw [h1]
    have := mayTxn_parts hm
    unfold I64
    omega
  · rw [h1]
    unfold I64 txn0
    dsimp only
    omega

set_option maxRecDepth 100000 in
set_option maxHeartbeats 8000000 in
theorem txnTurned_walk (w : World) (t : Txn) (cs0 : Array Value) (s0 : txnRep.rel w (· < w.heap.size) t cs0.toList) (at_ : Int) (_ : I64 at_) (m : Int) (hm : (Lit.int .u8 m).wf = true) :
    Calls Try.prog 13 #[.agg cs0, .int .i64 at_, .int .u8 m] w fun e w' => e = .returned (.bool true) ∧ Below w.heap.size w w' := by
  obtain ⟨mb, rfl⟩ := u8_of hm
  obtain ⟨A, n, c, A2, n2, c2, rfl, hL, hwl⟩ := txn_arg s0
  have L0 := Lib.hid (hL.alloc (.cells #[.int .i64 (t).lsn, .int .i64 (t).kind, .slice A n c, .slice A2 n2 c2, .int .i64 (t).mark] 68))
  have HWL := Lib.hid hwl
  have B0 := Lib.hid (below_allocB (Below.refl w.heap.size w) (.cells #[.int .i64 (t).lsn, .int .i64 (t).kind, .slice A n c, .slice A2 n2 c2, .int .i64 (t).mark] 68))
  obtain ⟨x, hx⟩ : ∃ x, x = oneT t := ⟨_, rfl⟩
  have hmay := oneT_may t
  have hwx := oneT_wf t
  rw [← hx] at hmay hwx
  have HX := Lib.hid hx
  have HWX := Lib.hid hwx
  obtain ⟨e0, e1, e2, _⟩ := decT_enc hmay
  obtain ⟨B, hB⟩ : ∃ B, B = encTV x := ⟨_, rfl⟩
  obtain ⟨N, hN⟩ : ∃ N, N = B.length := ⟨_, rfl⟩
  rw [← hB, ← hN] at e1 e2
  have E0 := Lib.hid e0
  have HB := Lib.hid hB
  have HN := Lib.hid hN
  have hcm := modOf_range at_ (N : Int) (by omega)
  obtain ⟨q, hq⟩ := Int.eq_ofNat_of_zero_le hcm.1
  have hq2 : q < N := by omega
  have HQ := Lib.hid hq
  obtain ⟨xq, hxq⟩ : ∃ x, B[q]? = some x := ⟨_, List.getElem?_eq_getElem (by omega)⟩
  have HXQ := Lib.hid hxq
  have hBne : B ≠ [] := by rintro rfl; simp at hxq
  have HBN := Lib.hid hBne
  have HADD := Lib.hid (u8_add xq mb)
  obtain ⟨C, hC⟩ : ∃ C, C = B.set q (xq + mb) := ⟨_, rfl⟩
  have HCL := Lib.hid (show C.length = N by rw [hC, List.length_set, hN])
  have HC := Lib.hid hC
  have DS := Lib.hid (decT_same C)
  have DL := Lib.hid (decTV_len C)
  have DW := Lib.hid (decTV_wf C)
  clear hm hx hmay hwx e0 hB hN s0 hL hwl hcm hq hxq hBne hC
  go_enter Try.func13, Try.ntmps13
  go_wp2_with (first
    | (go_at_call 52; (with_reducible refine (one_any t A n c A2 n2 c2 _ L0.out.s L0.out.l L0.out.m L0.out.s2 L0.out.l2 L0.out.m2 HWL.out).mono ?_); rintro e w1 ⟨Ax, nx, cx, Ay, ny, cy, rfl, sx, lx, mx, sy, ly, my, bel1⟩; rw [← HX.out] at sx sy ⊢; have SX := Lib.hid sx; have SY := Lib.hid sy; have B1 := Lib.hid (below_next B0.out bel1); clear sx sy bel1)
    | (go_at_call 46; (with_reducible refine (reftxnEncode_any x Ax nx cx Ay ny cy _ SX.out SY.out HWX.out).mono ?_); rintro e w2 ⟨v2, rfl, own2, bel2⟩; rw [E0.out]; rw [← HB.out] at own2; obtain ⟨g, cap, rfl, hgB, hgl, hcp1, hcp2⟩ := own2.form1 HBN.out; rw [← HN.out] at hcp1 own2 ⊢; have OW3 := Lib.hid (own2.mono B1.out.size); obtain ⟨hcell, hfroz⟩ := own_byte own2 HXQ.out; have B2 := Lib.hid (below_next B1.out bel2); have hgw : w.heap.size ≤ g := Nat.le_trans B1.out.size hgB; clear own2 bel2)
    | (go_at_call 15; (with_reducible refine (mod_any at_ (N : Int) _ (by omega) (by omega)).mono ?_); rintro e w' ⟨rfl, rfl⟩; rw [HQ.out])
    | fail)
  rw [HADD.out]
  obtain ⟨W, hW⟩ : ∃ W, W = w2.setCell ⟨g, q, none⟩ (.int .u8 ((xq + mb).toNat : Int)) := ⟨_, rfl⟩
  have hown := own_byte_set (xq + mb) OW3.out HXQ.out
  rw [← HC.out, ← hW] at hown
  have hbW : Below w.heap.size w W := by rw [hW]; exact B2.out.setCell hgw _
  obtain ⟨AW, cW, hvW, _, _, slW⟩ := hown.isSlB
  rw [HCL.out] at hvW slW
  injection hvW with hAW _ hcW
  subst hAW hcW
  have SLW := Lib.hid slW
  have BW := Lib.hid hbW
  rw [← hW]
  clear hW hown slW hcell hfroz hgl hbW
  by_cases he : decTE C = 0
  · have HE := Lib.hid he
    have HENC := Lib.hid (encT_dec he)
    clear he
    go_wp2_with (first
      | (go_at_call 53; (with_reducible refine (txnDecode_any _ N cap C _ SLW.out hcp1 hcp2).mono ?_); rintro e w4 ⟨A4, n4, c4, A5, n5, c5, rfl, s4, l4, m4, s5, l5, m5, bel4⟩; rw [HE.out]; have L4 := Lib.hid (Lies.alloc ⟨s4, l4, m4, s5, l5, m5⟩ (.cells #[.int .i64 (decTV C).lsn, .int .i64 (decTV C).kind, .slice A4 n4 c4, .slice A5 n5 c5, .int .i64 (decTV C).mark] 68)); have T4 := Lib.hid (Blk.new (w := w4) (cs := #[.int .i64 (decTV C).lsn, .int .i64 (decTV C).kind, .slice A4 n4 c4, .slice A5 n5 c5, .int .i64 (decTV C).mark]) (t := 68) rfl rfl); have SB4 := Lib.hid ((SLW.out.afterB bel4).allocB (.cells #[.int .i64 (decTV C).lsn, .int .i64 (decTV C).kind, .slice A4 n4 c4, .slice A5 n5 c5, .int .i64 (decTV C).mark] 68)); have B4 := Lib.hid (below_allocB (below_next BW.out bel4) (.cells #[.int .i64 (decTV C).lsn, .int .i64 (decTV C).kind, .slice A4 n4 c4, .slice A5 n5 c5, .int .i64 (decTV C).mark] 68)); clear s4 s5 bel4)
      | (go_at_call 56; (with_reducible refine (reftxnDecode_any _ N cap C _ SB4.out hcp1 hcp2).mono ?_); rintro e w5 ⟨A6, n6, c6, A7, n7, c7, rfl, s6, l6, m6, s7, l7, m7, bel5⟩; rw [DS.out.1, DS.out.2]; rw [DS.out.1] at s6 s7; rw [HE.out]; have M5 := Lib.hid (Lies.alloc ⟨s6, l6, m6, s7, l7, m7⟩ (.cells #[.int .i64 (decTV C).lsn, .int .i64 (decTV C).kind, .slice A6 n6 c6, .slice A7 n7 c7, .int .i64 (decTV C).mark] 68)); have U5 := Lib.hid (Blk.new (w := w5) (cs := #[.int .i64 (decTV C).lsn, .int .i64 (decTV C).kind, .slice A6 n6 c6, .slice A7 n7 c7, .int .i64 (decTV C).mark]) (t := 68) rfl rfl); have L5 := Lib.hid ((L4.out.after bel5).alloc (.cells #[.int .i64 (decTV C).lsn, .int .i64 (decTV C).kind, .slice A6 n6 c6, .slice A7 n7 c7, .int .i64 (decTV C).mark] 68)); have T5 := Lib.hid ((T4.out.after bel5).alloc (.cells #[.int .i64 (decTV C).lsn, .int .i64 (decTV C).kind, .slice A6 n6 c6, .slice A7 n7 c7, .int .i64 (decTV C).mark] 68)); have SB5 := Lib.hid ((SB4.out.afterB bel5).allocB (.cells #[.int .i64 (decTV C).lsn, .int .i64 (decTV C).kind, .slice A6 n6 c6, .slice A7 n7 c7, .int .i64 (decTV C).mark] 68)); have B5 := Lib.hid (below_allocB (below_next B4.out bel5) (.cells #[.int .i64 (decTV C).lsn, .int .i64 (decTV C).kind, .slice A6 n6 c6, .slice A7 n7 c7, .int .i64 (decTV C).mark] 68)); clear s6 s7 bel5)
      | (go_at_call 44; (with_reducible refine (awake07_any _).mono ?_); rintro e w6 ⟨rfl, bel6⟩; have M6 := Lib.hid (M5.out.after bel6); have L6 := Lib.hid (L5.out.after bel6); have T6 := Lib.hid (T5.out.after bel6); have U6 := Lib.hid (U5.out.after bel6); have SB6 := Lib.hid (SB5.out.afterB bel6); have B6 := Lib.hid (below_next B5.out bel6); obtain ⟨t0, t1, t2, t3, t4, tz⟩ := T6.out.c5; obtain ⟨q0, q1, q2, q3, q4, qz⟩ := U6.out.c5; clear bel6)
      | (go_at_call 54; (with_reducible refine (sametxn_any (decTV C) A4 n4 c4 A5 n5 c5 A6 n6 c6 A7 n7 c7 _ L6.out.s L6.out.s2 M6.out.s M6.out.s2 (L6.out.small DL.out).1 (L6.out.small DL.out).2).mono ?_); rintro e w7 ⟨rfl, bel7⟩; have L7 := Lib.hid (L6.out.after bel7); have T7 := Lib.hid (T6.out.after bel7); have SB7 := Lib.hid (SB6.out.afterB bel7); have B7 := Lib.hid (below_next B6.out bel7); obtain ⟨t0, t1, t2, t3, t4, tz⟩ := T7.out.c5; clear bel7)
      | (go_at_call 45; (with_reducible refine (txnEncode_any (decTV C) A4 n4 c4 A5 n5 c5 _ L7.out.s L7.out.s2 DW.out).mono ?_); rintro e w8 ⟨v8, rfl, own8, bel8⟩; rw [HENC.out.1]; rw [HENC.out.2] at own8; obtain ⟨A8, c8, rfl, _, _, sl8⟩ := own8.isSlB; have S8 := Lib.hid sl8; have SB8 := Lib.hid (SB7.out.afterB bel8); have B8 := Lib.hid (below_next B7.out bel8); clear own8 bel8 sl8)
      | (go_at_call 49; (with_reducible refine (bytes_any _ _ _ _ _ _ C _ _ _ SB8.out S8.out).mono ?_); rintro e w' ⟨rfl, rfl⟩)
      | fail)
    go_ret
    exact ⟨rfl, B8.out⟩
  · have hb0 : (decTE C == 0) = false := by simpa using he
    have HE := Lib.hid he
    clear he
    go_wp2_with (first
      | (go_at_call 53; (with_reducible refine (txnDecode_any _ N cap C _ SLW.out hcp1 hcp2).mono ?_); rintro e w4 ⟨A4, n4, c4, A5, n5, c5, rfl, s4, l4, m4, s5, l5, m5, bel4⟩; skip; have L4 := Lib.hid (Lies.alloc ⟨s4, l4, m4, s5, l5, m5⟩ (.cells #[.int .i64 (decTV C).lsn, .int .i64 (decTV C).kind, .slice A4 n4 c4, .slice A5 n5 c5, .int .i64 (decTV C).mark] 68)); have T4 := Lib.hid (Blk.new (w := w4) (cs := #[.int .i64 (decTV C).lsn, .int .i64 (decTV C).kind, .slice A4 n4 c4, .slice A5 n5 c5, .int .i64 (decTV C).mark]) (t := 68) rfl rfl); have SB4 := Lib.hid ((SLW.out.afterB bel4).allocB (.cells #[.int .i64 (decTV C).lsn, .int .i64 (decTV C).kind, .slice A4 n4 c4, .slice A5 n5 c5, .int .i64 (decTV C).mark] 68)); have B4 := Lib.hid (below_allocB (below_next BW.out bel4) (.cells #[.int .i64 (decTV C).lsn, .int .i64 (decTV C).kind, .slice A4 n4 c4, .slice A5 n5 c5, .int .i64 (decTV C).mark] 68)); clear s4 s5 bel4)
      | (go_at_call 56; (with_reducible refine (reftxnDecode_any _ N cap C _ SB4.out hcp1 hcp2).mono ?_); rintro e w5 ⟨A6, n6, c6, A7, n7, c7, rfl, s6, l6, m6, s7, l7, m7, bel5⟩; rw [DS.out.1, DS.out.2]; rw [DS.out.1] at s6 s7; skip; have M5 := Lib.hid (Lies.alloc ⟨s6, l6, m6, s7, l7, m7⟩ (.cells #[.int .i64 (decTV C).lsn, .int .i64 (decTV C).kind, .slice A6 n6 c6, .slice A7 n7 c7, .int .i64 (decTV C).mark] 68)); have U5 := Lib.hid (Blk.new (w := w5) (cs := #[.int .i64 (decTV C).lsn, .int .i64 (decTV C).kind, .slice A6 n6 c6, .slice A7 n7 c7, .int .i64 (decTV C).mark]) (t := 68) rfl rfl); have L5 := Lib.hid ((L4.out.after bel5).alloc (.cells #[.int .i64 (decTV C).lsn, .int .i64 (decTV C).kind, .slice A6 n6 c6, .slice A7 n7 c7, .int .i64 (decTV C).mark] 68)); have T5 := Lib.hid ((T4.out.after bel5).alloc (.cells #[.int .i64 (decTV C).lsn, .int .i64 (decTV C).kind, .slice A6 n6 c6, .slice A7 n7 c7, .int .i64 (decTV C).mark] 68)); have SB5 := Lib.hid ((SB4.out.afterB bel5).allocB (.cells #[.int .i64 (decTV C).lsn, .int .i64 (decTV C).kind, .slice A6 n6 c6, .slice A7 n7 c7, .int .i64 (decTV C).mark] 68)); have B5 := Lib.hid (below_allocB (below_next B4.out bel5) (.cells #[.int .i64 (decTV C).lsn, .int .i64 (decTV C).kind, .slice A6 n6 c6, .slice A7 n7 c7, .int .i64 (decTV C).mark] 68)); clear s6 s7 bel5)
      | (go_at_call 44; (with_reducible refine (awake07_any _).mono ?_); rintro e w6 ⟨rfl, bel6⟩; have M6 := Lib.hid (M5.out.after bel6); have L6 := Lib.hid (L5.out.after bel6); have T6 := Lib.hid (T5.out.after bel6); have U6 := Lib.hid (U5.out.after bel6); have SB6 := Lib.hid (SB5.out.afterB bel6); have B6 := Lib.hid (below_next B5.out bel6); obtain ⟨t0, t1, t2, t3, t4, tz⟩ := T6.out.c5; obtain ⟨q0, q1, q2, q3, q4, qz⟩ := U6.out.c5; clear bel6)
      | (go_at_call 54; (with_reducible refine (sametxn_any (decTV C) A4 n4 c4 A5 n5 c5 A6 n6 c6 A7 n7 c7 _ L6.out.s L6.out.s2 M6.out.s M6.out.s2 (L6.out.small DL.out).1 (L6.out.small DL.out).2).mono ?_); rintro e w7 ⟨rfl, bel7⟩; have L7 := Lib.hid (L6.out.after bel7); have T7 := Lib.hid (T6.out.after bel7); have SB7 := Lib.hid (SB6.out.afterB bel7); have B7 := Lib.hid (below_next B6.out bel7); obtain ⟨t0, t1, t2, t3, t4, tz⟩ := T7.out.c5; clear bel7)
      | (go_at_call 45; (with_reducible refine (txnEncode_any (decTV C) A4 n4 c4 A5 n5 c5 _ L7.out.s L7.out.s2 DW.out).mono ?_); rintro e w8 ⟨v8, rfl, own8, bel8⟩; skip; obtain ⟨A8, c8, rfl, _, _, sl8⟩ := own8.isSlB; have S8 := Lib.hid sl8; have SB8 := Lib.hid (SB7.out.afterB bel8); have B8 := Lib.hid (below_next B7.out bel8); clear own8 bel8 sl8)
      | fail)
    go_ret
    exact ⟨rfl, B8.out⟩
end Go.Proofs.Ytojjeogpggielaa
