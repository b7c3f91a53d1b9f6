/- The walk of the law BatchReads. Written by gen_batr.py. -/
import Derived.Test.YtcohheoahdbgmaaLies
import Derived.Test.YtcohheoahdbgmaaBat5
import Derived.Test.YtcohheoahdbgmaaBat8
import Derived.Test.YtcohheoahdbgmaaMemB
import Derived.Deep.Cut
set_option linter.unusedVariables false
set_option linter.unusedSimpArgs false
namespace Go.Proofs.Ytcohheoahdbgmaa
open Go.RowKit

theorem encV_small {l : List Fld} (h : l.length ≤ 32767) : (encV l).length ≤ 134312002 := by
  unfold encV encO
  split
  · rename_i hok
    show (bigB l.length 2 ++ encL l).length ≤ 134312002
    rw [List.length_append, bigB_len]
    have := encL_len hok.2
    omega
  · show ([] : List UInt8).length ≤ 134312002
    simp

theorem u8_add (x y : UInt8) : ((x.toNat : Int) + (y.toNat : Int)) % 256 = ((x + y).toNat : Int) := by
  rw [UInt8.toNat_add]
  omega

theorem decIV_len (b : List UInt8) : (decIV b).ops.length ≤ 4096 ∧ (decIV b).notes.length ≤ 256 := by
  rcases decIV_may b with h | h
  · have := mayItem_parts h; exact ⟨this.2.2.1, this.2.2.2.1⟩
  · rw [h]; exact ⟨Nat.zero_le _, Nat.zero_le _⟩
theorem decIV_wf (b : List UInt8) : I64 (decIV b).lsn := by
  rcases decIV_may b with h | h
  · have := mayItem_parts h; unfold I64; omega
  · rw [h]; unfold I64 item0; dsimp only; omega

/-- The three texts that are read, at place p of the list of them. -/
theorem three_in {W : World} {g n c m d m2 d2 p : Nat} {A A2 A3 : Option Addr} {b b2 b3 : List UInt8} (hp : p < 3) (h : Blk W g [.slice A n c, .slice A2 m d, .slice A3 m2 d2]) (s : IsSl byteRep W (· < W.heap.size) A n b) (s1 : n ≤ c) (s2 : c ≤ maxLen) (s3 : n ≤ 140737488351232) (r : IsSl byteRep W (· < W.heap.size) A2 m b2) (r1 : m ≤ d) (r2 : d ≤ maxLen) (r3 : m ≤ 140737488351232) (t : IsSl byteRep W (· < W.heap.size) A3 m2 b3) (t1 : m2 ≤ d2) (t2 : d2 ≤ maxLen) (t3 : m2 ≤ 140737488351232) :
    ∃ Ai ni ci bi, W.cell? ⟨g, p, none⟩ = some (.slice Ai ni ci) ∧ IsSl byteRep W (· < W.heap.size) Ai ni bi ∧ ni ≤ ci ∧ ci ≤ maxLen ∧ ni ≤ 140737488351232 := by
  obtain ⟨c0, c1, c2, _⟩ := h.c3
  rcases (show p = 0 ∨ p = 1 ∨ p = 2 by omega) with rfl | rfl | rfl
  · exact ⟨_, _, _, _, c0, s, s1, s2, s3⟩
  · exact ⟨_, _, _, _, c1, r, r1, r2, r3⟩
  · exact ⟨_, _, _, _, c2, t, t1, t2, t3⟩

set_option maxRecDepth 100000 in
set_option maxHeartbeats 8000000 in
theorem batchReads_walk (w : World) (A : Option Addr) (n c : Nat) (b : List UInt8) (h : IsSl byteRep w (· < w.heap.size) A n b) (h1 : n ≤ c) (h2 : c ≤ maxLen) (hz : c * 1 ≤ 140737488351232) (A' : Option Addr) (n' c' : Nat) (l : List Fld) (h' : IsSl fldRep w (· < w.heap.size) A' n' l) (h1' : n' ≤ c') (h2' : c' ≤ maxLen) (hz' : c' * 32 ≤ 140737488351232) (x : Item) (cs0 : Array Value) (s0 : itemRep.rel w (· < w.heap.size) x cs0.toList) (at_ : Int) (_ : I64 at_) (mm : Int) (hmm : (Lit.int .u8 mm).wf = true) :
    Calls Try.prog 5 #[.slice A n c, .slice A' n' c', .agg cs0, .int .i64 at_, .int .u8 mm] w fun e w' => e = .returned (.bool true) ∧ Below w.heap.size w w' := by
  obtain ⟨i0, hi, hz0, hz1, hz2⟩ := info_parts info_byte
  obtain ⟨mb, rfl⟩ := u8_of hmm
  obtain ⟨Ax, nx, cx, Bx, mx, dx, rfl, hL, hwl⟩ := item_arg s0
  obtain ⟨U, hU⟩ : ∃ U, U = w.alloc (.cells #[.int .i64 x.lsn, .slice Ax nx cx, .slice Bx mx dx] 25) := ⟨_, rfl⟩
  have HU := Lib.hid hU
  have B0 := Lib.hid (show Below w.heap.size w U by rw [hU]; exact below_allocB (Below.refl _ _) _)
  have KU := Lib.hid (show Blk U w.heap.size [.int .i64 x.lsn, .slice Ax nx cx, .slice Bx mx dx] by rw [hU]; exact Blk.new rfl rfl)
  have LU := Lib.hid (hL.after B0.out)
  have H := Lib.hid (h.afterB B0.out)
  have H' := Lib.hid (h'.afterB B0.out)
  have HL' := Lib.hid h'.len
  obtain ⟨k0, k1, k2, kz⟩ := KU.out.c3
  clear h h' hU hL hwl s0 hmm
  by_cases hbig : 300 < n'
  · have hdb : decide (300 < (n' : Int)) = true := decide_eq_true (by omega)
    go_enter Try.func5, Try.ntmps5
    go_wp2_with (go_at_call 15; rw [← HU.out]; (with_reducible refine (awake16 _).mono ?_); rintro e w1 ⟨rfl, hb1⟩; have B1 := Lib.hid (below_next B0.out hb1); clear hb1)
    go_ret
    exact ⟨rfl, B1.out⟩
  · have hn : n' ≤ 300 := by omega
    have hdb : decide (300 < (n' : Int)) = false := decide_eq_false (by omega)
    obtain ⟨y, hy⟩ : ∃ y, y = someI 3 x := ⟨_, rfl⟩
    have hmay := someI_may 3 x (by omega) (by omega)
    rw [← hy] at hmay
    have HY := Lib.hid hy
    have HYL := Lib.hid (show I64 y.lsn by have := mayItem_parts hmay; unfold I64; omega)
    obtain ⟨e0, -⟩ := decI_enc hmay
    obtain ⟨e1, e2⟩ := encIV_len hmay
    obtain ⟨B, hB⟩ : ∃ B, B = encIV y := ⟨_, rfl⟩
    obtain ⟨N, hN⟩ : ∃ N, N = B.length := ⟨_, rfl⟩
    rw [← hB, ← hN] at e1 e2
    have E0 := Lib.hid e0
    have HB := Lib.hid hB
    have HN := Lib.hid hN
    have hcm := modOf_range at_ (N : Int) (by omega)
    obtain ⟨q, hq⟩ := Int.eq_ofNat_of_zero_le hcm.1
    have hq2 : q < N := by omega
    have HQ := Lib.hid hq
    obtain ⟨xq, hxq⟩ : ∃ x, B[q]? = some x := ⟨_, List.getElem?_eq_getElem (by omega)⟩
    have HXQ := Lib.hid hxq
    have hBne : B ≠ [] := by rintro rfl; simp at hxq
    have HBN := Lib.hid hBne
    have HADD := Lib.hid (u8_add xq mb)
    obtain ⟨C, hC⟩ : ∃ C, C = B.set q (xq + mb) := ⟨_, rfl⟩
    have HCL := Lib.hid (show C.length = N by rw [hC, List.length_set, hN])
    have HC := Lib.hid hC
    clear hbig hmay e0 hB hN hcm hq hxq hBne hC hy
    go_enter Try.func5, Try.ntmps5
    go_upto_region 8 with (first
      | (go_at_call 26; rw [← HU.out]; (with_reducible refine (refencode_any A' n' c' l _ H'.out (by omega)).mono ?_); rintro e w1 ⟨v1, rfl, own1, bel1⟩; obtain ⟨A2, c2, rfl, hl2, hm2, sl2⟩ := own1.isSlB; obtain ⟨m2, hm2'⟩ : ∃ m, m = (encV l).length := ⟨_, rfl⟩; have hms : m2 ≤ 140737488351232 := (by rw [hm2']; have := encV_small (l := l) (by rw [← HL'.out]; omega); omega); rw [← hm2'] at sl2 hl2 ⊢; have SL1 := Lib.hid sl2; have H1 := Lib.hid (H.out.afterB bel1); have L1 := Lib.hid (LU.out.after bel1); have B1 := Lib.hid (below_next B0.out bel1); obtain ⟨k0, k1, k2, kz⟩ := (KU.out.after bel1).c3; clear own1 sl2 bel1 hm2')
      | (go_at_call 16; (with_reducible refine (some_any x Ax nx cx Bx mx dx 3 w1 L1.out.s L1.out.s2 (by omega) (by omega)).mono ?_); rintro e w2 ⟨Ay, ny, cy, By, my, dy, rfl, sy, ly, my1, sy2, ly2, my2, bel2⟩; rw [← HY.out] at sy sy2 ⊢; have LY := Lib.hid (show Lies w2 y Ay ny cy By my dy from ⟨sy.weak fun _ h => h.2, ly, my1, sy2.weak fun _ h => h.2, ly2, my2⟩); have SL2 := Lib.hid (SL1.out.afterB bel2); have H2 := Lib.hid (H1.out.afterB bel2); have B2 := Lib.hid (below_next B1.out bel2); clear sy sy2 bel2)
      | (go_at_call 19; (with_reducible refine (refEncodeItem_any y Ay ny cy By my dy _ LY.out.s LY.out.s2 LY.out.l LY.out.m LY.out.l2 LY.out.m2 HYL.out).mono ?_); rintro e w3 ⟨v3, rfl, own3, bel3⟩; rw [E0.out]; rw [← HB.out] at own3; obtain ⟨g, cap, rfl, hgB, hgl, hcp1, hcp2⟩ := own3.form1 HBN.out; rw [← HN.out] at hcp1 own3 ⊢; have OW3 := Lib.hid own3; obtain ⟨hcell, hfroz⟩ := own_byte own3 HXQ.out; have B3 := Lib.hid (below_next B2.out bel3); have SL3 := Lib.hid (SL2.out.afterB bel3); have H3 := Lib.hid (H2.out.afterB bel3); have SL2s := Lib.hid (show IsSl byteRep w3 (· < w2.heap.size) A2 m2 (encV l) from SL2.out.below bel3); have H2s := Lib.hid (show IsSl byteRep w3 (· < w2.heap.size) A n b from H2.out.below bel3); have hw2 : w.heap.size ≤ w2.heap.size := B2.out.size; clear own3 bel3)
      | (go_at_call 17; (with_reducible refine (mod_any at_ (N : Int) _ (by omega) (by omega)).mono ?_); rintro e w' ⟨rfl, rfl⟩; rw [HQ.out])
      | fail)
    rw [HADD.out]
    obtain ⟨V, hV⟩ : ∃ V, V = w3.setCell ⟨g, q, none⟩ (.int .u8 ((xq + mb).toNat : Int)) := ⟨_, rfl⟩
    have hown := own_byte_set (xq + mb) OW3.out HXQ.out
    rw [← HC.out, ← hV] at hown
    have hset : Below w2.heap.size w3 V := by rw [hV]; exact (Below.refl _ _).setCell (p := ⟨g, q, none⟩) hgB _
    have hbV : Below w.heap.size w V := B3.out.trans (hset.mono hw2)
    obtain ⟨AW, cW, hvW, _, hcW2, slW⟩ := hown.isSlB
    rw [HCL.out] at hvW slW
    injection hvW with hAW _ hcW
    subst hAW hcW
    have hw23 : w2.heap.size ≤ V.heap.size := by have := hset.size; omega
    have S1 := Lib.hid ((H2s.out.below hset).more hw23)
    have S2 := Lib.hid ((SL2s.out.below hset).more hw23)
    have S3 := Lib.hid slW
    have BV := Lib.hid hbV
    rw [← hV]
    clear hV hown hset hbV slW
    obtain ⟨W, hW⟩ : ∃ W, W = V.alloc (.cells #[.slice A n c, .slice A2 m2 c2, .slice (some ⟨g, 0, none⟩) N cap] 35) := ⟨_, rfl⟩
    have hWb : Below V.heap.size V W := by rw [hW]; exact (Below.refl _ _).alloc (Nat.le_refl _) _
    have BK := Lib.hid (show Blk W V.heap.size [.slice A n c, .slice A2 m2 c2, .slice (some ⟨g, 0, none⟩) N cap] by rw [hW]; exact Blk.new rfl rfl)
    have T1 := Lib.hid (S1.out.afterB hWb)
    have T2 := Lib.hid (S2.out.afterB hWb)
    have T3 := Lib.hid (S3.out.afterB hWb)
    have BW := Lib.hid (below_next BV.out hWb)
    have HW := Lib.hid hW
    clear hW hWb hcell hfroz
    go_upto_region 9 with fail
    rw [← HW.out]
    go_loopw [55] (fun i wr => ∃ p : Nat, i = .int .i64 p ∧ p ≤ 3 ∧ Below W.heap.size W wr) (fun i _ => 3 - (intOf i).toNat)
    case atStart => exact ⟨0, rfl, by omega, Below.refl _ _⟩
    case round =>
      obtain ⟨p, rfl, hp2, hbel⟩ := hrel
      by_cases hp : p < 3
      · have hd : decide ((p : Int) < 3) = true := decide_eq_true (by omega)
        have hd2 : (p : Int) < 3 := by omega
        obtain ⟨Ai, ni, ci, bi, kc, si, l1, l2, l3⟩ := three_in hp BK.out T1.out h1 h2 (by omega) T2.out hl2 hm2 hms T3.out hcp1 hcp2 (by omega)
        have hsz := hbel.size
        have hgl' : V.heap.size < wr.heap.size := Nat.lt_of_lt_of_le BK.out.lt hsz
        have k0 := (hbel.cell (p := ⟨V.heap.size, p, none⟩) BK.out.lt).trans kc
        have SI := Lib.hid ((si.below hbel).more hsz)
        have HLI := Lib.hid si.len
        have BE := Lib.hid hbel
        have DS := Lib.hid (decI_same bi)
        have DL := Lib.hid (decIV_len bi)
        have DW := Lib.hid (decIV_wf bi)
        have hE : (decIE bi = 0 ∧ encIE (decIV bi) = 0 ∧ encIV (decIV bi) = bi) ∨ ((decIE bi == 0) = false) := by
          by_cases e : decIE bi = 0
          · exact .inl ⟨e, encI_dec e⟩
          · exact .inr (by simpa using e)
        clear kc si hbel
        go_upto_region 16 with (first
          | (at_builtin; refine wpList_append_Own _ rfl _ _ 35 rfl wr.heap.size 5 i0 _ 1 Try.underlying35 hi hz0 hz1 hz2 rfl (R := byteRep) (S := fun _ => False) (l := []) (l' := bi) (.slice (some ⟨wr.heap.size, 0, none⟩) 0 0) rfl (Own.nil _ _ _ (fun _ h => h.elim) _ _) Ai ni ci rfl (SI.out.srcF flat_byte ((Below.refl _ _).alloc (Nat.le_refl _) _)) (by simp [maxLen]; omega) (by simp; omega) (by omega) (by simp) ?_; intro v1 w4 own4 gr4 at4; have bel4 := ((Below.refl wr.heap.size wr).alloc (Nat.le_refl _) (.cells #[] 5)).grown gr4 (by simp) (by intro k hk; simp [rowOf] at hk); simp only [List.nil_append] at own4; obtain ⟨A1, c1, rfl, hlc1, hcm1, sl1⟩ := own4.isSlB; rw [← HLI.out] at hlc1 sl1 ⊢; have SL4 := Lib.hid sl1; have B4 := Lib.hid bel4; clear gr4 at4 own4 sl1 bel4)
          | (go_at_call 24; (with_reducible refine (batDecode_any A1 ni c1 bi _ SL4.out hlc1 hcm1).mono ?_); rintro e w5 ⟨A3, n3, c3, A4, n4, c4, rfl, s3, l3', m3', s4, l4', m4', bel5⟩; have bw5 : Below w5.heap.size w5 (w5.alloc (.cells #[.int .i64 (decIV bi).lsn, .slice A3 n3 c3, .slice A4 n4 c4] 25)) := (Below.refl _ _).alloc (Nat.le_refl _) _; have B5 := Lib.hid (below_next (below_next B4.out bel5) bw5); have L5 := Lib.hid (show Lies (w5.alloc (.cells #[.int .i64 (decIV bi).lsn, .slice A3 n3 c3, .slice A4 n4 c4] 25)) (decIV bi) A3 n3 c3 A4 n4 c4 from (⟨s3, l3', m3', s4, l4', m4'⟩ : Lies w5 (decIV bi) A3 n3 c3 A4 n4 c4).after bw5); have T5 := Lib.hid (Blk.new (w := w5) (cs := #[.int .i64 (decIV bi).lsn, .slice A3 n3 c3, .slice A4 n4 c4]) (t := 25) rfl rfl); have k0 := (B5.out.cell (p := ⟨V.heap.size, p, none⟩) hgl').trans k0; have SI5 := Lib.hid (SI.out.afterB B5.out); clear s3 s4 bel5 bw5)
          | (go_at_call 27; (with_reducible refine (refDecodeItem_any Ai ni ci bi _ SI5.out l1 l2).mono ?_); rintro e w6 ⟨B3', m3, d3, B4', m4, d4, rfl, s3, l3', m3', s4, l4', m4', bel6⟩; rw [DS.out.1, DS.out.2]; rw [DS.out.1] at s3 s4; have bw6 : Below w6.heap.size w6 (w6.alloc (.cells #[.int .i64 (decIV bi).lsn, .slice B3' m3 d3, .slice B4' m4 d4] 25)) := (Below.refl _ _).alloc (Nat.le_refl _) _; have B6 := Lib.hid (below_next (below_next B5.out bel6) bw6); have L6 := Lib.hid ((L5.out.after bel6).after bw6); have M6 := Lib.hid (show Lies (w6.alloc (.cells #[.int .i64 (decIV bi).lsn, .slice B3' m3 d3, .slice B4' m4 d4] 25)) (decIV bi) B3' m3 d3 B4' m4 d4 from (⟨s3, l3', m3', s4, l4', m4'⟩ : Lies w6 (decIV bi) B3' m3 d3 B4' m4 d4).after bw6); have T6 := Lib.hid ((T5.out.after bel6).after bw6); have U6 := Lib.hid (Blk.new (w := w6) (cs := #[.int .i64 (decIV bi).lsn, .slice B3' m3 d3, .slice B4' m4 d4]) (t := 25) rfl rfl); have SI6 := Lib.hid ((SI5.out.afterB bel6).afterB bw6); obtain ⟨t0, t1, t2, tz⟩ := T6.out.c3; obtain ⟨u0, u1, u2, uz⟩ := U6.out.c3; clear s3 s4 bel6 bw6)
          | (go_at_call 25; (with_reducible refine (item_any (decIV bi).lsn A3 A4 B3' B4' n3 n4 c3 c4 m3 m4 d3 d4 (decIV bi).ops (decIV bi).notes _ L6.out.s M6.out.s L6.out.s2 M6.out.s2 (L6.out.small DL.out).1 (L6.out.small DL.out).2).mono ?_); rintro e w7 ⟨rfl, bel7⟩; have B7 := Lib.hid (below_next B6.out bel7); have L7 := Lib.hid (L6.out.after bel7); have SI7 := Lib.hid (SI6.out.afterB bel7); obtain ⟨t0, t1, t2, tz⟩ := (T6.out.after bel7).c3; clear bel7)
          | (go_at_call 18; (with_reducible refine (batEncode_any (decIV bi) A3 n3 c3 A4 n4 c4 _ L7.out.s L7.out.s2 L7.out.l L7.out.m L7.out.l2 L7.out.m2 DW.out).mono ?_); rintro e w8 ⟨v8, rfl, own8, bel8⟩; obtain ⟨Ab, cb, rfl, hlb, hcb, slb⟩ := own8.isSlB; have SB8 := Lib.hid slb; have SI8 := Lib.hid (SI7.out.afterB bel8); have B8 := Lib.hid (below_next B7.out bel8); clear own8 slb bel8)
          | fail)
        rcases hE with ⟨hE1, hE2, hE3⟩ | hE
        · have HE1 := Lib.hid hE1
          have HE2 := Lib.hid hE2
          have HE3 := Lib.hid hE3
          clear hE1 hE2 hE3
          rw [HE1.out, HE2.out, HE3.out, ← HLI.out]
          rw [HE3.out, ← HLI.out] at SB8
          go_wp2_with (first
            | (go_at_call 22; (with_reducible refine (bytes_any _ _ _ _ _ _ bi _ _ _ SB8.out SI8.out).mono ?_); rintro e w' ⟨rfl, rfl⟩)
            | fail)
          go_roundw
          case rel => exact ⟨p + 1, by go_num, by omega, BE.out.trans (B8.out.mono hsz)⟩
          case measure => simp [intOf]; omega
        · go_wp2_with fail
          go_roundw
          case rel => exact ⟨p + 1, by go_num, by omega, BE.out.trans (B8.out.mono hsz)⟩
          case measure => simp [intOf]; omega
      · have hd : decide ((p : Int) < 3) = false := decide_eq_false (by omega)
        obtain rfl : p = 3 := by omega
        go_wp2_with (go_at_call 15; (with_reducible refine (awake16 _).mono ?_); rintro e w1' ⟨rfl, hb1⟩)
        go_ret
        exact ⟨rfl, below_next BW.out (below_next hbel hb1)⟩
end Go.Proofs.Ytcohheoahdbgmaa
