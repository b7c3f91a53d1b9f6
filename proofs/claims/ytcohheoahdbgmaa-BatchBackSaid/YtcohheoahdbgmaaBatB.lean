/- The walk of the law BatchBack. -/
import Derived.Test.YtcohheoahdbgmaaLies
set_option linter.unusedVariables false
set_option linter.unusedSimpArgs false
namespace Go.Proofs.Ytcohheoahdbgmaa
open Go.RowKit

set_option maxRecDepth 100000 in
set_option maxHeartbeats 8000000 in
theorem batchBack_walk (w : World) (t : Item) (cs0 : Array Value) (s0 : itemRep.rel w (· < w.heap.size) t cs0.toList) (lsn : Int) (_ : I64 lsn) (m : Int) (hm : (Lit.int .u8 m).wf = true) :
    Calls Try.prog 4 #[.agg cs0, .int .i64 lsn, .int .u8 m] w fun e w' => e = .returned (.bool true) ∧ Below w.heap.size w w' := by
  obtain ⟨i0, hi, hz0, hz1, hz2⟩ := info_parts info_byte
  obtain ⟨mb, rfl⟩ := u8_of hm
  obtain ⟨A, n, c, A2, n2, c2, rfl, hL, hwl⟩ := item_arg s0
  have L0 := Lib.hid (hL.alloc (.cells #[.int .i64 (t).lsn, .slice A n c, .slice A2 n2 c2] 25))
  have HWL := Lib.hid hwl
  have B0 := Lib.hid (below_allocB (Below.refl w.heap.size w) (.cells #[.int .i64 (t).lsn, .slice A n c, .slice A2 n2 c2] 25))
  obtain ⟨x, hx⟩ : ∃ x, x = someI (modOf lsn 1073741824) t := ⟨_, rfl⟩
  have hlr := modOf_range lsn 1073741824 (by omega)
  have hmay := someI_may (modOf lsn 1073741824) t hlr.1 (by omega)
  rw [← hx] at hmay
  have HX := Lib.hid hx
  have HWX := Lib.hid (show I64 x.lsn by have := mayItem_parts hmay; unfold I64; omega)
  obtain ⟨e0, -, e3, e4, e5, e6⟩ := decI_enc hmay
  obtain ⟨e1, e2⟩ := encIV_len hmay
  have hsm := mayItem_parts hmay
  have HSM := Lib.hid (show x.ops.length ≤ 4096 ∧ x.notes.length ≤ 256 from ⟨hsm.2.2.1, hsm.2.2.2.1⟩)
  obtain ⟨B, hB⟩ : ∃ B, B = encIV x := ⟨_, rfl⟩
  obtain ⟨N, hN⟩ : ∃ N, N = B.length := ⟨_, rfl⟩
  rw [← hB, ← hN] at e1 e2
  rw [← hB] at e3 e4 e5 e6
  rw [← hN] at e5
  have E0 := Lib.hid e0
  have HB := Lib.hid hB
  have HN := Lib.hid hN
  have HN1 := Lib.hid (show (B ++ [mb]).length = N + 1 by rw [List.length_append, hN]; rfl)
  have E3 := Lib.hid e3
  have E4 := Lib.hid e4
  have E5 := Lib.hid (e5 (N - 1) (by omega))
  have E6 := Lib.hid (e6 mb)
  have hn1 : ((N : Int) == 0) = false := by simp; omega
  have hn2 : ((N - 1 : Nat) : Int) = (N : Int) - 1 := by omega
  obtain ⟨ls, hls⟩ : ∃ ls, ls = modOf lsn 1073741824 := ⟨_, rfl⟩
  rw [← hls] at hlr HX
  have HLS := Lib.hid hls
  have hlr2 : ls ≤ 1099511627770 := by omega
  clear hls hm hx hmay hsm e0 e3 e4 e5 e6 hB hN s0 hL hwl
  go_enter Try.func4, Try.ntmps4
  go_upto_region 1 with fail
  obtain ⟨V, hV⟩ : ∃ V, V = w.alloc (.cells #[.int .i64 (t).lsn, .slice A n c, .slice A2 n2 c2] 25) := ⟨_, rfl⟩
  have KV := Lib.hid (show Blk V w.heap.size [.int .i64 (t).lsn, .slice A n c, .slice A2 n2 c2] by rw [hV]; exact Blk.new rfl rfl)
  rw [← hV] at L0 B0 ⊢
  clear hV
  obtain ⟨k0, k1, k2, kz⟩ := KV.out.c3
  have hKV := KV.out.lt
  have LD := Lib.hid (show Lies V.drew t A n c A2 n2 c2 from ⟨L0.out.s.keep (fun _ _ => rfl), L0.out.l, L0.out.m, L0.out.s2.keep (fun _ _ => rfl), L0.out.l2, L0.out.m2⟩)
  have LDZ := Lib.hid (show Lies (V.alloc (.cells #[.int .i64 0, .slice none 0 0, .slice none 0 0] 25)).drew t A n c A2 n2 c2 from ⟨(L0.out.alloc (.cells #[.int .i64 0, .slice none 0 0, .slice none 0 0] 25)).s.keep (fun _ _ => rfl), L0.out.l, L0.out.m, (L0.out.alloc (.cells #[.int .i64 0, .slice none 0 0, .slice none 0 0] 25)).s2.keep (fun _ _ => rfl), L0.out.l2, L0.out.m2⟩)
  have HKV := Lib.hid (show ∀ o : Obj, (V.alloc o).cell? ⟨w.heap.size, 0, none⟩ = some (.int .i64 (t).lsn) ∧ (V.alloc o).cell? ⟨w.heap.size, 1, none⟩ = some (.slice A n c) ∧ (V.alloc o).cell? ⟨w.heap.size, 2, none⟩ = some (.slice A2 n2 c2) from fun o => ⟨(KV.out.alloc o).1 0 _ rfl, (KV.out.alloc o).1 1 _ rfl, (KV.out.alloc o).1 2 _ rfl⟩)
  go_cut [7] (fun v7 wc => ∃ (X : Nat) (Ax : Option Addr) (nx cx : Nat) (Ay : Option Addr) (ny cy : Nat), v7 = .pointer (some ⟨X, 0, none⟩) ∧ Blk wc X [.int .i64 (x).lsn, .slice Ax nx cx, .slice Ay ny cy] ∧ Lies wc x Ax nx cx Ay ny cy ∧ Below w.heap.size w wc)
  case first =>
    go_region_held3 (fun w' => w'.cell? ⟨w.heap.size, 0, none⟩ = some (.int .i64 (t).lsn) ∧ w'.cell? ⟨w.heap.size, 1, none⟩ = some (.slice A n c) ∧ w'.cell? ⟨w.heap.size, 2, none⟩ = some (.slice A2 n2 c2)) (first | exact ⟨k0, k1, k2⟩ | exact HKV.out _ | exact HK1.out | exact HKS.out | exact HKA.out _)
      (first
      | (go_at_call 23; (with_reducible refine (big_any lsn 1073741824 _ (by omega) (by omega)).mono ?_); rintro e w' ⟨rfl, rfl⟩; rw [← HLS.out])
      | (go_at_call 16; (with_reducible refine (some_any t A n c A2 n2 c2 ls V.drew LD.out.s LD.out.s2 hlr.1 hlr2).mono ?_); rintro e w1 ⟨Ax, nx, cx, Ay, ny, cy, rfl, sx, lx, mx, sy, ly, my, bel1⟩; rw [← HX.out] at sx sy ⊢; have KV1 := Lib.hid (KV.out.after (below_of_drew bel1)); have HK1 := Lib.hid (show w1.cell? ⟨w.heap.size, 0, none⟩ = some (.int .i64 (t).lsn) ∧ w1.cell? ⟨w.heap.size, 1, none⟩ = some (.slice A n c) ∧ w1.cell? ⟨w.heap.size, 2, none⟩ = some (.slice A2 n2 c2) from ⟨KV1.out.1 0 _ rfl, KV1.out.1 1 _ rfl, KV1.out.1 2 _ rfl⟩); have HKA := Lib.hid (show ∀ o : Obj, (w1.alloc o).cell? ⟨w.heap.size, 0, none⟩ = some (.int .i64 (t).lsn) ∧ (w1.alloc o).cell? ⟨w.heap.size, 1, none⟩ = some (.slice A n c) ∧ (w1.alloc o).cell? ⟨w.heap.size, 2, none⟩ = some (.slice A2 n2 c2) from fun o => ⟨(KV1.out.alloc o).1 0 _ rfl, (KV1.out.alloc o).1 1 _ rfl, (KV1.out.alloc o).1 2 _ rfl⟩); have LX := Lib.hid (show Lies w1 x Ax nx cx Ay ny cy from ⟨sx.weak fun _ h => h.2, lx, mx, sy.weak fun _ h => h.2, ly, my⟩); have B1 := Lib.hid (below_next B0.out (below_of_drew bel1)); clear sx sy bel1)
      | (go_at_call 16; (with_reducible refine (some_any t A n c A2 n2 c2 ls (V.alloc (.cells #[.int .i64 0, .slice none 0 0, .slice none 0 0] 25)).drew LDZ.out.s LDZ.out.s2 hlr.1 hlr2).mono ?_); rintro e w1 ⟨Ax, nx, cx, Ay, ny, cy, rfl, sx, lx, mx, sy, ly, my, bel1⟩; rw [← HX.out] at sx sy ⊢; have KV1 := Lib.hid ((KV.out.alloc _).after (below_of_drew bel1)); have HK1 := Lib.hid (show w1.cell? ⟨w.heap.size, 0, none⟩ = some (.int .i64 (t).lsn) ∧ w1.cell? ⟨w.heap.size, 1, none⟩ = some (.slice A n c) ∧ w1.cell? ⟨w.heap.size, 2, none⟩ = some (.slice A2 n2 c2) from ⟨KV1.out.1 0 _ rfl, KV1.out.1 1 _ rfl, KV1.out.1 2 _ rfl⟩); have HKA := Lib.hid (show ∀ o : Obj, (w1.alloc o).cell? ⟨w.heap.size, 0, none⟩ = some (.int .i64 (t).lsn) ∧ (w1.alloc o).cell? ⟨w.heap.size, 1, none⟩ = some (.slice A n c) ∧ (w1.alloc o).cell? ⟨w.heap.size, 2, none⟩ = some (.slice A2 n2 c2) from fun o => ⟨(KV1.out.alloc o).1 0 _ rfl, (KV1.out.alloc o).1 1 _ rfl, (KV1.out.alloc o).1 2 _ rfl⟩); have LX := Lib.hid (show Lies w1 x Ax nx cx Ay ny cy from ⟨sx.weak fun _ h => h.2, lx, mx, sy.weak fun _ h => h.2, ly, my⟩); have B1 := Lib.hid (below_next (below_allocB B0.out (.cells #[.int .i64 0, .slice none 0 0, .slice none 0 0] 25)) (below_of_drew bel1)); have TZ := Lib.hid ((Blk.new (w := V) (cs := #[.int .i64 0, .slice none 0 0, .slice none 0 0]) (t := 25) rfl rfl).after (below_of_drew bel1)); obtain ⟨z0, z1, z2, zz⟩ := TZ.out.c3; have hne : w.heap.size ≠ V.heap.size := Nat.ne_of_lt hKV; have hZ1 : V.heap.size < w1.heap.size := TZ.out.lt; have HKS := Lib.hid (show (((w1.setCell ⟨V.heap.size, 0, none⟩ (.int .i64 x.lsn)).setCell ⟨V.heap.size, 1, none⟩ (.slice Ax nx cx)).setCell ⟨V.heap.size, 2, none⟩ (.slice Ay ny cy)).cell? ⟨w.heap.size, 0, none⟩ = some (.int .i64 (t).lsn) ∧ (((w1.setCell ⟨V.heap.size, 0, none⟩ (.int .i64 x.lsn)).setCell ⟨V.heap.size, 1, none⟩ (.slice Ax nx cx)).setCell ⟨V.heap.size, 2, none⟩ (.slice Ay ny cy)).cell? ⟨w.heap.size, 1, none⟩ = some (.slice A n c) ∧ (((w1.setCell ⟨V.heap.size, 0, none⟩ (.int .i64 x.lsn)).setCell ⟨V.heap.size, 1, none⟩ (.slice Ax nx cx)).setCell ⟨V.heap.size, 2, none⟩ (.slice Ay ny cy)).cell? ⟨w.heap.size, 2, none⟩ = some (.slice A2 n2 c2) from ⟨(((KV1.out.other hne 0 _).other hne 1 _).other hne 2 _).1 0 _ rfl, (((KV1.out.other hne 0 _).other hne 1 _).other hne 2 _).1 1 _ rfl, (((KV1.out.other hne 0 _).other hne 1 _).other hne 2 _).1 2 _ rfl⟩); have LX3 := Lib.hid (show Lies (((w1.setCell ⟨V.heap.size, 0, none⟩ (.int .i64 x.lsn)).setCell ⟨V.heap.size, 1, none⟩ (.slice Ax nx cx)).setCell ⟨V.heap.size, 2, none⟩ (.slice Ay ny cy)) x Ax nx cx Ay ny cy from ⟨(set3_keep sx (fun h => absurd h.1 (by show ¬ (V.alloc (.cells #[.int .i64 0, .slice none 0 0, .slice none 0 0] 25)).heap.size ≤ V.heap.size; simp)) _ _ _).weak (fun b h => by simpa using h.2), lx, mx, (set3_keep sy (fun h => absurd h.1 (by show ¬ (V.alloc (.cells #[.int .i64 0, .slice none 0 0, .slice none 0 0] 25)).heap.size ≤ V.heap.size; simp)) _ _ _).weak (fun b h => by simpa using h.2), ly, my⟩); clear sx sy bel1)
      | fail)
    all_goals
      go_wp2_with fail
      go_meet
      case rel =>
        first
          | exact ⟨w1.heap.size, Ax, nx, cx, Ay, ny, cy, rfl, Blk.new rfl rfl, LX.out.alloc _, below_allocB B1.out _⟩
          | exact ⟨V.heap.size, Ax, nx, cx, Ay, ny, cy, rfl, ((TZ.out.put (j := 0) (by simp) (.int .i64 x.lsn) rfl).put (j := 1) (by simp) (.slice Ax nx cx) rfl).put (j := 2) (by simp) (.slice Ay ny cy) rfl, LX3.out, ((B1.out.setCell (p := ⟨V.heap.size, 0, none⟩) (Nat.le_of_lt hKV) _).setCell (p := ⟨V.heap.size, 1, none⟩) (Nat.le_of_lt hKV) _).setCell (p := ⟨V.heap.size, 2, none⟩) (Nat.le_of_lt hKV) _⟩
  case rest =>
    obtain ⟨X, Ax, nx, cx, Ay, ny, cy, rfl, hTX, hLX, hB1⟩ := hcut
    obtain ⟨t0, t1, t2, tz⟩ := hTX.c3
    go_wp2_with (first
      | (go_at_call 18; (with_reducible refine (batEncode_any x Ax nx cx Ay ny cy _ hLX.s hLX.s2 hLX.l hLX.m hLX.l2 hLX.m2 HWX.out).mono ?_); rintro e w2 ⟨v2, rfl, own2, bel2⟩; rw [E0.out]; rw [← HB.out] at own2; obtain ⟨Ab, cb, rfl, hlb, hcb, slb⟩ := own2.isSlB; rw [← HN.out] at hlb slb ⊢; have SB2 := Lib.hid slb; have LX2 := Lib.hid (hLX.after bel2); have TX2 := Lib.hid (hTX.after bel2); have B2 := Lib.hid (below_next hB1 bel2); clear own2 slb bel2)
      | (go_at_call 15; (with_reducible refine (awake16 _).mono ?_); rintro e w3 ⟨rfl, bel3⟩; have SB3 := Lib.hid (SB2.out.afterB bel3); have LX3 := Lib.hid (LX2.out.after bel3); have TX3 := Lib.hid (TX2.out.after bel3); have B3 := Lib.hid (below_next B2.out bel3); clear bel3)
      | (go_at_call 24; (with_reducible refine (batDecode_any Ab N cb B _ SB3.out hlb hcb).mono ?_); rintro e w4 ⟨A4, n4, c4, A5, n5, c5, rfl, s4, l4, m4, s5, l5, m5, bel4⟩; rw [E3.out, E4.out]; rw [E4.out] at s4 s5; have LY4 := Lib.hid (Lies.alloc ⟨s4, l4, m4, s5, l5, m5⟩ (.cells #[.int .i64 (x).lsn, .slice A4 n4 c4, .slice A5 n5 c5] 25)); have TY4 := Lib.hid (Blk.new (w := w4) (cs := #[.int .i64 (x).lsn, .slice A4 n4 c4, .slice A5 n5 c5]) (t := 25) rfl rfl); have LX4 := Lib.hid ((LX3.out.after bel4).alloc (.cells #[.int .i64 (x).lsn, .slice A4 n4 c4, .slice A5 n5 c5] 25)); have TX4 := Lib.hid ((TX3.out.after bel4).alloc (.cells #[.int .i64 (x).lsn, .slice A4 n4 c4, .slice A5 n5 c5] 25)); have SB4 := Lib.hid ((SB3.out.afterB bel4).allocB (.cells #[.int .i64 (x).lsn, .slice A4 n4 c4, .slice A5 n5 c5] 25)); have B4 := Lib.hid (below_allocB (below_next B3.out bel4) (.cells #[.int .i64 (x).lsn, .slice A4 n4 c4, .slice A5 n5 c5] 25)); clear s4 s5 bel4)
      | (go_at_call 24; rw [← hn2]; (with_reducible refine (batDecode_any Ab (N - 1) cb (B.take (N - 1)) _ (SB4.out.cutTo (hi := N - 1) (by omega)) (by omega) hcb).mono ?_); rintro e w5 ⟨A6, n6, c6, A7, n7, c7, rfl, _, _, _, _, _, _, bel5⟩; rw [E5.out]; have LY5 := Lib.hid ((LY4.out.after bel5).alloc (.cells #[.int .i64 (decIV (B.take (N - 1))).lsn, .slice A6 n6 c6, .slice A7 n7 c7] 25)); have LX5 := Lib.hid ((LX4.out.after bel5).alloc (.cells #[.int .i64 (decIV (B.take (N - 1))).lsn, .slice A6 n6 c6, .slice A7 n7 c7] 25)); have TX5 := Lib.hid ((TX4.out.after bel5).alloc (.cells #[.int .i64 (decIV (B.take (N - 1))).lsn, .slice A6 n6 c6, .slice A7 n7 c7] 25)); have TY5 := Lib.hid ((TY4.out.after bel5).alloc (.cells #[.int .i64 (decIV (B.take (N - 1))).lsn, .slice A6 n6 c6, .slice A7 n7 c7] 25)); have SB5 := Lib.hid ((SB4.out.afterB bel5).allocB (.cells #[.int .i64 (decIV (B.take (N - 1))).lsn, .slice A6 n6 c6, .slice A7 n7 c7] 25)); have B5 := Lib.hid (below_allocB (below_next B4.out bel5) (.cells #[.int .i64 (decIV (B.take (N - 1))).lsn, .slice A6 n6 c6, .slice A7 n7 c7] 25)); clear bel5)
      | (at_builtin; refine wpList_append_Own _ rfl _ _ 35 rfl (w5.alloc (.cells #[.int .i64 (decIV (B.take (N - 1))).lsn, .slice A6 n6 c6, .slice A7 n7 c7] 25)).heap.size 5 i0 _ 1 Try.underlying35 hi hz0 hz1 hz2 rfl (R := byteRep) (S := fun _ => False) (l := []) (l' := B) (.slice (some ⟨w5.heap.size + 1, 0, none⟩) 0 0) rfl (Own.nil _ _ _ (fun _ h => h.elim) _ _) Ab N cb rfl (SB5.out.srcF flat_byte ((Below.refl _ _).alloc (Nat.le_refl _) _)) (by simp [maxLen]; omega) (by simp; omega) (by omega) (by simp) ?_; intro v8 w8 own8 gr8 at8; have bel8 := ((Below.refl (w5.alloc (.cells #[.int .i64 (decIV (B.take (N - 1))).lsn, .slice A6 n6 c6, .slice A7 n7 c7] 25)).heap.size (w5.alloc (.cells #[.int .i64 (decIV (B.take (N - 1))).lsn, .slice A6 n6 c6, .slice A7 n7 c7] 25))).alloc (Nat.le_refl _) _).grown gr8 (by simp) (by intro k hk; simp [rowOf] at hk); simp only [List.nil_append] at own8; have OW8 := Lib.hid own8; have BL8 := Lib.hid bel8; clear gr8 at8 own8 bel8)
      | (at_builtin; refine wpList_append_Own _ rfl _ _ 35 rfl (w5.alloc (.cells #[.int .i64 (decIV (B.take (N - 1))).lsn, .slice A6 n6 c6, .slice A7 n7 c7] 25)).heap.size 5 i0 _ 1 Try.underlying35 hi hz0 hz1 hz2 rfl (R := byteRep) (S := fun _ => False) (l := B) (l' := [mb]) v8 rfl (OW8.out.alloc _) _ 1 1 rfl (Src.new ⟨rfl, trivial⟩) (by rw [← HN.out]; simp [maxLen]; omega) (by rw [← HN.out]; omega) (by omega) (by have := BL8.out.size; simp at this; simp; omega) ?_; intro v9 w9 own9 gr9 at9; have bel9 := (BL8.out.alloc BL8.out.size _).grown gr9 (by have := BL8.out.size; simp at this; simp; omega) (fun g hg => OW8.out.row_ge hg); obtain ⟨A9, c9, rfl, hlc9, hcm9, sl9⟩ := own9.isSlB; rw [HN1.out] at hlc9 sl9 ⊢; have SL9 := Lib.hid sl9; have LX9 := Lib.hid (LX5.out.after bel9); have LY9 := Lib.hid (LY5.out.after bel9); have TX9 := Lib.hid (TX5.out.after bel9); have TY9 := Lib.hid (TY5.out.after bel9); have B9 := Lib.hid (below_next B5.out bel9); clear gr9 at9 own9 sl9 bel9)
      | (go_at_call 24; (with_reducible refine (batDecode_any A9 (N + 1) c9 (B ++ [mb]) _ SL9.out hlc9 hcm9).mono ?_); rintro e w6 ⟨A10, n10, c10, A11, n11, c11, rfl, _, _, _, _, _, _, bel6⟩; rw [E6.out]; have LX6 := Lib.hid ((LX9.out.after bel6).alloc (.cells #[.int .i64 (decIV (B ++ [mb])).lsn, .slice A10 n10 c10, .slice A11 n11 c11] 25)); have LY6 := Lib.hid ((LY9.out.after bel6).alloc (.cells #[.int .i64 (decIV (B ++ [mb])).lsn, .slice A10 n10 c10, .slice A11 n11 c11] 25)); have TX6 := Lib.hid ((TX9.out.after bel6).alloc (.cells #[.int .i64 (decIV (B ++ [mb])).lsn, .slice A10 n10 c10, .slice A11 n11 c11] 25)); have TY6 := Lib.hid ((TY9.out.after bel6).alloc (.cells #[.int .i64 (decIV (B ++ [mb])).lsn, .slice A10 n10 c10, .slice A11 n11 c11] 25)); have B6 := Lib.hid (below_allocB (below_next B9.out bel6) (.cells #[.int .i64 (decIV (B ++ [mb])).lsn, .slice A10 n10 c10, .slice A11 n11 c11] 25)); obtain ⟨t0, t1, t2, tz⟩ := TX6.out.c3; obtain ⟨q0, q1, q2, qz⟩ := TY6.out.c3; clear bel6)
      | (go_at_call 25; (with_reducible refine (item_any x.lsn Ax Ay A4 A5 nx ny cx cy n4 n5 c4 c5 x.ops x.notes _ LX6.out.s LY6.out.s LX6.out.s2 LY6.out.s2 (LX6.out.small HSM.out).1 (LX6.out.small HSM.out).2).mono ?_); rintro e w7 ⟨rfl, bel7⟩; have B7 := Lib.hid (below_next B6.out bel7); clear bel7)
      | fail)
    go_ret
    exact ⟨rfl, B7.out⟩
end Go.Proofs.Ytcohheoahdbgmaa
