/- Contract: play.Item. Written by gen_bats.py. -/
import Derived.Test.YtcohheoahdbgmaaPlayC
import Derived.Test.YtcohheoahdbgmaaBat7
import Derived.Deep.Cut
set_option linter.unusedVariables false
set_option linter.unusedSimpArgs false
namespace Go.Proofs.Ytcohheoahdbgmaa
open Go.RowKit

def playOpr (t L : Int) (o : Opr) : Opr := ⟨1 + modOf o.lsn L, (playChg t ⟨o.table, o.key, o.gone, o.val⟩).table, (playChg t ⟨o.table, o.key, o.gone, o.val⟩).key, (playChg t ⟨o.table, o.key, o.gone, o.val⟩).gone, (playChg t ⟨o.table, o.key, o.gone, o.val⟩).val⟩
def playLsn (lsn : Int) (x : Item) : Int := lsn + 1 + modOf x.lsn 3
def playOps (t lsn : Int) (x : Item) : List Opr := (x.ops.take 5).map (playOpr t (playLsn lsn x))
theorem playOpr_wf (t L : Int) (o : Opr) (ht : 0 < t) (ht2 : t ≤ 9223372036854775807) (hL : 0 < L) (hL2 : L ≤ 1099511627776) : (playOpr t L o).wf := by
  have h1 := modOf_range o.lsn L hL
  have h2 := playChg_wf (c := ⟨o.table, o.key, o.gone, o.val⟩) t ht ht2
  refine ⟨?_, h2.1, h2.2.1, h2.2.2⟩
  show I64 (1 + modOf o.lsn L)
  unfold I64
  omega

set_option maxRecDepth 100000 in
set_option maxHeartbeats 16000000 in
theorem playItem_any (x : Item) (A : Option Addr) (n c : Nat) (A2 : Option Addr) (n2 c2 : Nat) (t lsn : Int) (w : World) (h : IsSl oprRep w (· < w.heap.size) A n x.ops) (ht : 0 < t) (ht2 : t ≤ 9223372036854775807) (hl : 0 ≤ lsn) (hl2 : lsn ≤ 1099511627770) :
    Calls Try.prog 39 #[.agg #[.int .i64 x.lsn, .slice A n c, .slice A2 n2 c2], .int .i64 t, .int .i64 lsn] w fun e w' => ∃ v, e = .returned (.agg #[.int .i64 (playLsn lsn x), v, .slice none 0 0]) ∧ Own oprRep w' w.heap.size (fun _ => False) 29 v (playOps t lsn x) ∧ Below w.heap.size w w' := by
  obtain ⟨i0, hi, hz0, hz1, hz2⟩ := info_parts info_opr
  obtain ⟨xl, xo, xn⟩ := x
  dsimp only at h ⊢
  have H := Lib.hid h
  have HL := Lib.hid h.len
  have hr3 := modOf_range xl 3 (by omega)
  obtain ⟨z, hz⟩ : ∃ z, z = modOf xl 3 := ⟨_, rfl⟩
  rw [← hz] at hr3
  have HZ := Lib.hid hz
  obtain ⟨L, hLe⟩ : ∃ L, L = playLsn lsn ⟨xl, xo, xn⟩ := ⟨_, rfl⟩
  have hLz : L = lsn + 1 + z := by rw [hLe, hz]; rfl
  have HLE := Lib.hid hLe
  have HLZ := Lib.hid hLz
  have hL0 : 0 < L := by omega
  have hL1 : L ≤ 1099511627776 := by omega
  rw [← hLe]
  have HOP := Lib.hid (show playOps t lsn ⟨xl, xo, xn⟩ = (xo.take 5).map (playOpr t L) by unfold playOps; rw [hLe])
  obtain ⟨W0, hW0⟩ : ∃ W0, W0 = (w.alloc (.cells #[.int .i64 xl, .slice A n c, .slice A2 n2 c2] 25)).alloc (.cells #[.int .i64 0, .slice none 0 0, .slice none 0 0] 25) := ⟨_, rfl⟩
  have B0 := Lib.hid (show Below w.heap.size w W0 by rw [hW0]; exact ((Below.refl _ _).alloc (Nat.le_refl _) _).alloc (by simp) _)
  have K0 := Lib.hid (show Blk W0 w.heap.size [.int .i64 xl, .slice A n c, .slice A2 n2 c2] by rw [hW0]; exact (Blk.new rfl rfl).alloc _)
  have R0 := Lib.hid (show Blk W0 (w.heap.size + 1) [.int .i64 0, .slice none 0 0, .slice none 0 0] by rw [hW0]; exact Blk.new rfl (by simp))
  obtain ⟨T, hT⟩ : ∃ T, T = W0.heap.size := ⟨_, rfl⟩
  have HT := Lib.hid hT
  have HTw := Lib.hid (show T = w.heap.size + 2 by rw [hT, hW0]; simp)
  have hwT : w.heap.size + 1 < T := by have := HTw.out; omega
  have HW0 := Lib.hid hW0
  obtain ⟨k0, k1, k2, kz⟩ := K0.out.c3
  clear h hz hLe hLz hT hW0
  go_enter Try.func39, Try.ntmps39
  go_upto_block 0 with (first
    | (go_at_call 23; (rw [← HW0.out]); (with_reducible refine (big_any xl 3 _ (by omega) (by omega)).mono ?_); rintro e w' ⟨rfl, rfl⟩; rw [← HZ.out])
    | fail)
  rw [← HLZ.out]
  obtain ⟨W, hW⟩ : ∃ W, W = W0.alloc (.cells #[.int .i64 L, .slice none 0 0, .slice none 0 0] 25) := ⟨_, rfl⟩
  have TW := Lib.hid (show Blk W T [.int .i64 L, .slice none 0 0, .slice none 0 0] by rw [hW, HT.out]; exact Blk.new rfl rfl)
  have BW := Lib.hid (show Below T W0 W by rw [hW, HT.out]; exact (Below.refl _ _).alloc (Nat.le_refl _) _)
  first
    | rw [← HT.out, ← hW]
    | rw [← HTw.out, ← hW]
  clear hW k0 k1 k2 kz
  go_wp2_with fail
  go_loopw [8] (fun i wr => ∃ (k : Nat) (v2 : Value), i = .int .i64 k ∧ k ≤ n ∧ k ≤ 5 ∧ Own oprRep wr (T + 1) (fun _ => False) 29 v2 ((xo.take k).map (playOpr t L)) ∧ Blk wr T [.int .i64 L, v2, .slice none 0 0] ∧ Below T W0 wr) (fun i _ => n - (intOf i).toNat)
  case atStart => exact ⟨0, _, rfl, Nat.zero_le _, Nat.zero_le _, Own.nil _ _ _ (fun _ h => h.elim) _ _, TW.out, BW.out⟩
  case round =>
    obtain ⟨k, v2, rfl, hk, hk5, hown, hat, hbel⟩ := hrel
    obtain ⟨P, hP⟩ : ∃ P, P = (xo.take k).map (playOpr t L) := ⟨_, rfl⟩
    rw [← hP] at hown
    have hPl : P.length ≤ 5 := by rw [hP, List.length_map, List.length_take]; omega
    have HP := Lib.hid hP
    have OW := Lib.hid hown
    have AT := Lib.hid hat
    have BE := Lib.hid hbel
    have HRT : Hid (∀ q, rowOf v2 = some q → T < q) := Lib.hid (fun q hq => Nat.lt_of_succ_le (OW.out.row_ge hq))
    have hTs := hat.lt
    have hwr0 : w.heap.size < wr.heap.size := by omega
    obtain ⟨k0, k1, k2, kz⟩ := (K0.out.below BE.out (by omega)).c3
    clear hP hown hat hbel
    by_cases hlt : k < n ∧ k < 5
    · obtain ⟨h1, h2⟩ := hlt
      obtain ⟨b, off, x, rfl, hbS, hx, hwf, c0, c1, c3, c4, c5⟩ := H.out.opr h1 (fun p hp => (BE.out.cell (p := p) (by omega)).trans (B0.out.cell hp))
      have hd1 : decide ((k : Int) < (n : Int)) = true := decide_eq_true (by omega)
      have hd2 : decide ((k : Int) < 5) = true := decide_eq_true (by omega)
      have hkm : (k : Int) < (n : Int) := by omega
      have HSN := Lib.hid (show (xo.take (k + 1)).map (playOpr t L) = P ++ [playOpr t L x] by rw [take_snoc hx, List.map_append, ← HP.out]; rfl)
      have HPW := Lib.hid (playOpr_wf t L x ht ht2 hL0 hL1)
      obtain ⟨ol, ot, ok, og, ov⟩ := x
      dsimp only at c0 c1 c3 c4 c5
      have hov : ov.size ≤ maxLen := hwf.2.2.2
      have hqr := modOf_range ol L hL0
      obtain ⟨q, hq⟩ : ∃ q, q = modOf ol L := ⟨_, rfl⟩
      rw [← hq] at hqr
      have HQ := Lib.hid hq
      obtain ⟨⟨yt, yk, yg, yv⟩, hy⟩ : ∃ y, y = playChg t ⟨ot, ok, og, ov⟩ := ⟨_, rfl⟩
      have HY := Lib.hid hy
      have HYE := Lib.hid (show playOpr t L ⟨ol, ot, ok, og, ov⟩ = ⟨1 + q, yt, yk, yg, yv⟩ by unfold playOpr; dsimp only; rw [← hy, ← hq])
      rw [HYE.out] at HPW HSN
      clear hx hwf hy hq h1
      go_upto_region 7 with (first
        | (go_at_call 75; (with_reducible refine (playChange_any ⟨ot, ok, og, ov⟩ t ht ht2 _ hov).mono ?_); rintro e w9 ⟨rfl, bel9⟩; rw [← HY.out]; have B9 := Lib.hid (((Below.refl wr.heap.size wr).alloc (Nat.le_refl _) (.cells #[.int .i64 ol, .int .i64 ot, .int .i64 ok, .bool og, .string ov] 29)).trans (bel9.mono (by simp))); have D9 := Lib.hid ((Blk.new (w := wr) (cs := #[.int .i64 ol, .int .i64 ot, .int .i64 ok, .bool og, .string ov]) (t := 29) rfl rfl).after bel9); clear bel9)
        | fail)
      obtain ⟨V, hV⟩ : ∃ V, V = w9.alloc (.cells #[.int .i64 yt, .int .i64 yk, .bool yg, .string yv] 77) := ⟨_, rfl⟩
      obtain ⟨D, hD⟩ : ∃ D, D = wr.heap.size := ⟨_, rfl⟩
      obtain ⟨E, hE⟩ : ∃ E, E = w9.heap.size := ⟨_, rfl⟩
      have hDE : D < E := by rw [hD, hE]; exact D9.out.lt
      have hTD : T < D := by rw [hD]; exact hTs
      have BV := Lib.hid (show Below wr.heap.size wr V by rw [hV]; exact B9.out.alloc B9.out.size _)
      have KE := Lib.hid (show Blk V E [.int .i64 yt, .int .i64 yk, .bool yg, .string yv] by rw [hV, hE]; exact Blk.new rfl rfl)
      have KD := Lib.hid (show Blk V D [.int .i64 ol, .int .i64 ot, .int .i64 ok, .bool og, .string ov] by rw [hV, hD]; exact D9.out.alloc _)
      have ATV := Lib.hid (AT.out.after BV.out)
      have OWV := Lib.hid (OW.out.below BV.out)
      have BEV := Lib.hid (BE.out.trans (BV.out.mono (Nat.le_of_lt hTs)))
      have HRD : Hid (∀ r, rowOf v2 = some r → r < D) := Lib.hid (fun r hr => by rw [hD]; exact OW.out.row_lt hr)
      have hTV : T < V.heap.size := ATV.out.lt
      have hEV : E < V.heap.size := KE.out.lt
      have hTVd : T < V.drew.heap.size := hTV
      rw [← hD, ← hE, ← hV]
      clear hV hD hE c0 c1 c3 c4 c5 k0 k1 k2 kz
      obtain ⟨e0, e1, e2, e3, ez⟩ := KE.out.c4
      obtain ⟨d0, d1, d2, d3, d4, dz⟩ := KD.out.c5
      obtain ⟨t0, t1, t2, tz⟩ := ATV.out.c3
      have hq1 : IntKind.i64.wrap (1 + q) = 1 + q := IntWalk.i64_in _ (by omega)
      have OWD := Lib.hid OWV.out.drew
      have BED := Lib.hid (below_drewN BEV.out 1)
      have ATD := Lib.hid ATV.out.drew
      have KDD := Lib.hid KD.out.drew
      have KED := Lib.hid KE.out.drew
      have hA : ∀ o : Obj, (V.alloc o).cell? ⟨D, 0, none⟩ = some (.int .i64 ol) ∧ (V.alloc o).cell? ⟨T, 0, none⟩ = some (.int .i64 L) ∧ (V.alloc o).cell? ⟨E, 0, none⟩ = some (.int .i64 yt) ∧ (V.alloc o).cell? ⟨E, 1, none⟩ = some (.int .i64 yk) ∧ (V.alloc o).cell? ⟨E, 2, none⟩ = some (.bool yg) ∧ (V.alloc o).cell? ⟨E, 3, none⟩ = some (.string yv) := fun o => ⟨(KD.out.alloc o).1 0 _ rfl, (ATV.out.alloc o).1 0 _ rfl, (KE.out.alloc o).1 0 _ rfl, (KE.out.alloc o).1 1 _ rfl, (KE.out.alloc o).1 2 _ rfl, (KE.out.alloc o).1 3 _ rfl⟩
      have hX1 : ∀ o : Obj, (V.alloc o).cell? ⟨T, 1, none⟩ = some v2 := fun o => (ATV.out.alloc o).1 1 _ rfl
      have HSRC := Lib.hid (show Src oprRep (V.drew.alloc (.cells #[.int .i64 (1 + q), .int .i64 yt, .int .i64 yk, .bool yg, .string yv] 29)) (fun _ => False) (some ⟨V.heap.size, 0, none⟩) 1 [(⟨1 + q, yt, yk, yg, yv⟩ : Opr)] from Src.new (R := oprRep) (w := V.drew) (e := 29) (S := fun _ => False) (a := (⟨1 + q, yt, yk, yg, yv⟩ : Opr)) (cs := (⟨1 + q, yt, yk, yg, yv⟩ : Opr).cells) ⟨rfl, HPW.out⟩)
      refine wp_region_held_drew (S := fun w' => w'.cell? ⟨D, 0, none⟩ = some (.int .i64 ol) ∧ w'.cell? ⟨T, 0, none⟩ = some (.int .i64 L) ∧ w'.cell? ⟨E, 0, none⟩ = some (.int .i64 yt) ∧ w'.cell? ⟨E, 1, none⟩ = some (.int .i64 yk) ∧ w'.cell? ⟨E, 2, none⟩ = some (.bool yg) ∧ w'.cell? ⟨E, 3, none⟩ = some (.string yv)) (by kernel_rfl) (⟨d0, t0, e0, e1, e2, e3⟩) (fun hHeld => ?_)
      (refine wpAnyH_take (i := 0) (v := ?_) rfl (by kernel_rfl) (by kernel_rfl) (by kernel_rfl) (fun _ _ _ h => h) (Or.inl ⟨by rfl, ?_⟩) hHeld ?_; rotate_left 1; focus (intro w hSw; (try dsimp only at hSw); go_simp; try with_reducible rfl)); (try simp only [Act.put, List.setIfInBounds_toArray, List.set_cons_zero, List.set_cons_succ])
      (refine wpAnyH_take (i := 2) (v := ?_) rfl (by kernel_rfl) (by kernel_rfl) (by kernel_rfl) (fun _ _ _ h => h) (Or.inl ⟨by rfl, ?_⟩) hHeld ?_; rotate_left 1; focus (intro w hSw; (try dsimp only at hSw); go_simp; try with_reducible rfl)); (try simp only [Act.put, List.setIfInBounds_toArray, List.set_cons_zero, List.set_cons_succ])
      (refine wpAnyH_take (i := 3) (v := ?_) rfl (by kernel_rfl) (by kernel_rfl) (by kernel_rfl) (fun _ _ _ h => h) (Or.inl ⟨by rfl, ?_⟩) hHeld ?_; rotate_left 1; focus (intro w hSw; (try dsimp only at hSw); go_simp; try with_reducible rfl)); (try simp only [Act.put, List.setIfInBounds_toArray, List.set_cons_zero, List.set_cons_succ])
      (refine wpAnyH_take (i := 4) (v := ?_) rfl (by kernel_rfl) (by kernel_rfl) (by kernel_rfl) (fun _ _ _ h => h) (Or.inl ⟨by rfl, ?_⟩) hHeld ?_; rotate_left 1; focus (intro w hSw; (try dsimp only at hSw); go_simp; try with_reducible rfl)); (try simp only [Act.put, List.setIfInBounds_toArray, List.set_cons_zero, List.set_cons_succ])
      (refine wpAnyH_take (i := 5) (v := ?_) rfl (by kernel_rfl) (by kernel_rfl) (by kernel_rfl) (fun _ _ _ h => h) (Or.inl ⟨by rfl, ?_⟩) hHeld ?_; rotate_left 1; focus (intro w hSw; (try dsimp only at hSw); go_simp; try with_reducible rfl)); (try simp only [Act.put, List.setIfInBounds_toArray, List.set_cons_zero, List.set_cons_succ])
      (refine wpAnyH_take (i := 8) (v := ?_) rfl (by kernel_rfl) (by kernel_rfl) (by kernel_rfl) (fun _ _ _ h => h) (Or.inl ⟨by rfl, ?_⟩) hHeld ?_; rotate_left 1; focus (intro w hSw; (try dsimp only at hSw); go_simp; try with_reducible rfl)); (try simp only [Act.put, List.setIfInBounds_toArray, List.set_cons_zero, List.set_cons_succ])
      (refine wpAnyH_take (i := 9) (v := ?_) rfl (by kernel_rfl) (by kernel_rfl) (by kernel_rfl) (fun _ _ _ h => h) (Or.inl ⟨by rfl, ?_⟩) hHeld ?_; rotate_left 1; focus (intro w hSw; (try dsimp only at hSw); go_simp; try with_reducible rfl)); (try simp only [Act.put, List.setIfInBounds_toArray, List.set_cons_zero, List.set_cons_succ])
      (refine wpAnyH_take (i := 10) (v := ?_) rfl (by kernel_rfl) (by kernel_rfl) (by kernel_rfl) (fun _ _ _ h => h) (Or.inl ⟨by rfl, ?_⟩) hHeld ?_; rotate_left 1; focus (intro w hSw; (try dsimp only at hSw); go_simp; try with_reducible rfl)); (try simp only [Act.put, List.setIfInBounds_toArray, List.set_cons_zero, List.set_cons_succ])
      (refine wpAnyH_take (i := 11) (v := ?_) rfl (by kernel_rfl) (by kernel_rfl) (by kernel_rfl) (fun _ _ _ h => h) (Or.inl ⟨by rfl, ?_⟩) hHeld ?_; rotate_left 1; focus (intro w hSw; (try dsimp only at hSw); go_simp; try with_reducible rfl)); (try simp only [Act.put, List.setIfInBounds_toArray, List.set_cons_zero, List.set_cons_succ])
      (refine wpAnyH_take (i := 12) (v := ?_) rfl (by kernel_rfl) (by kernel_rfl) (by kernel_rfl) (fun _ _ _ h => h) (Or.inl ⟨by rfl, ?_⟩) hHeld ?_; rotate_left 1; focus (intro w hSw; (try dsimp only at hSw); go_simp; try with_reducible rfl)); (try simp only [Act.put, List.setIfInBounds_toArray, List.set_cons_zero, List.set_cons_succ])
      (refine wpAnyH_take (i := 13) (v := ?_) rfl (by kernel_rfl) (by kernel_rfl) (by kernel_rfl) (fun _ _ _ h => h) (Or.inl ⟨by rfl, ?_⟩) hHeld ?_; rotate_left 1; focus (intro w hSw; (try dsimp only at hSw); go_simp; try with_reducible rfl)); (try simp only [Act.put, List.setIfInBounds_toArray, List.set_cons_zero, List.set_cons_succ])
      (refine wpAnyH_take (i := 14) (v := ?_) rfl (by kernel_rfl) (by kernel_rfl) (by kernel_rfl) (fun _ _ _ h => h) (Or.inl ⟨by rfl, ?_⟩) hHeld ?_; rotate_left 1; focus (intro w hSw; (try dsimp only at hSw); go_simp; try with_reducible rfl)); (try simp only [Act.put, List.setIfInBounds_toArray, List.set_cons_zero, List.set_cons_succ])
      (refine wpAnyH_take (i := 15) (v := ?_) rfl (by kernel_rfl) (by kernel_rfl) (by kernel_rfl) (fun _ _ _ h => h) (Or.inl ⟨by rfl, ?_⟩) hHeld ?_; rotate_left 1; focus (intro w hSw; (try dsimp only at hSw); go_simp; try with_reducible rfl)); (try simp only [Act.put, List.setIfInBounds_toArray, List.set_cons_zero, List.set_cons_succ])
      refine wpAnyH_ready (rs := [1, 6]) (by kernel_rfl) (by simp) ?_
      refine AllReadyH.cons rfl (fun K hK => ?_) (AllReadyH.cons rfl (fun K hK => ?_) AllReadyH.nil)
      · go_simp
        refine hK.out _ _ (hHeld) (fun _ => ?_)
        clear hK K
        refine wpAnyH_ready (rs := [6]) (by kernel_rfl) (by simp) ?_
        refine AllReadyH.cons rfl (fun K hK => ?_) AllReadyH.nil
        go_simp
        go_at_call 23; (with_reducible refine (big_any ol L _ hL0 (by omega)).mono ?_); rintro e w' ⟨rfl, rfl⟩; rw [← HQ.out]
        refine hK.out _ _ (hHeld) (fun _ => ?_)
        clear hK K
        (refine wpAnyH_take (i := 7) (v := ?_) rfl (by kernel_rfl) (by kernel_rfl) (by kernel_rfl) (fun _ _ _ h => h) (Or.inl ⟨by rfl, ?_⟩) hHeld ?_; rotate_left 1; focus (intro w hSw; (try dsimp only at hSw); go_simp; try with_reducible rfl)); (try simp only [Act.put, List.setIfInBounds_toArray, List.set_cons_zero, List.set_cons_succ])
        (refine wpAnyH_take (i := 16) (v := ?_) rfl (by kernel_rfl) (by kernel_rfl) (by kernel_rfl) (fun _ _ _ h => h) (Or.inl ⟨by rfl, ?_⟩) hHeld ?_; rotate_left 1; focus (intro w hSw; (try dsimp only at hSw); go_simp; try with_reducible rfl)); (try simp only [Act.put, List.setIfInBounds_toArray, List.set_cons_zero, List.set_cons_succ])
        refine wpAnyH_ready (rs := [17]) (by kernel_rfl) (by simp) ?_
        refine AllReadyH.cons rfl (fun K hK => ?_) AllReadyH.nil
        go_simp
        refine hK.out _ _ (hA _) (fun hHeldA => ?_)
        clear hK K
        refine wpAnyH_ready (rs := [18]) (by kernel_rfl) (by simp) ?_
        refine AllReadyH.cons rfl (fun K hK => ?_) AllReadyH.nil
        refine step_append_Own (w := V.drew.alloc (.cells #[.int .i64 (1 + q), .int .i64 yt, .int .i64 yk, .bool yg, .string yv] 29)) rfl (.tmp 46) (.tmp 62) 22 rfl (T + 1) 29 i0 _ 48 Try.underlying22 hi hz0 hz1 hz2 rfl (R := oprRep) (S := fun _ => False) (l := P) (l' := [(⟨1 + q, yt, yk, yg, yv⟩ : Opr)]) v2 rfl (OWD.out.alloc _) _ 1 1 rfl HSRC.out (by simp only [maxLen]; omega) (by omega) (by omega) (by simp; omega) ?_
        intro v8 w8 own8 gr8 at8
        obtain ⟨A8, c8, hv8, hlc8, hcm8, sl8⟩ := own8.isSlB
        obtain ⟨m8, hm8⟩ : ∃ m8, m8 = (P ++ [(⟨1 + q, yt, yk, yg, yv⟩ : Opr)]).length := ⟨_, rfl⟩
        rw [← hm8] at hv8
        subst hv8
        clear hm8 hlc8 hcm8 sl8
        have AT8 := Lib.hid ((ATD.out.alloc _).grown gr8 (fun k hk e => by have := HRT.out k hk; omega))
        have KD8 := Lib.hid ((KDD.out.alloc _).grown gr8 (fun k hk e => by have := HRD.out k hk; omega))
        have KE8 := Lib.hid ((KED.out.alloc _).grown gr8 (fun k hk e => by have := HRD.out k hk; omega))
        have BE8 := Lib.hid ((BED.out.alloc (Nat.le_of_lt hTVd) _).grown gr8 (by simp; omega) (fun k hk => by have := HRT.out k hk; omega))
        have OW8 := Lib.hid own8
        clear own8 gr8 at8
        obtain ⟨s0, s1, s2, sz⟩ := AT8.out.c3
        refine hK.out _ _ ⟨KD8.out.1 0 _ rfl, AT8.out.1 0 _ rfl, KE8.out.1 0 _ rfl, KE8.out.1 1 _ rfl, KE8.out.1 2 _ rfl, KE8.out.1 3 _ rfl⟩ (fun hHeld8 => ?_)
        clear hK K
        (refine wpAnyH_take (i := 19) (v := ?_) rfl (by kernel_rfl) (by kernel_rfl) (by kernel_rfl) (fun _ _ _ h => h) (Or.inl ⟨by rfl, ?_⟩) hHeld8 ?_; rotate_left 1; focus (intro w hSw; (try dsimp only at hSw); go_simp; try with_reducible rfl)); (try simp only [Act.put, List.setIfInBounds_toArray, List.set_cons_zero, List.set_cons_succ])
        refine wpAnyH_ready (rs := [20]) (by kernel_rfl) (by simp) ?_
        refine AllReadyH.cons rfl (fun K hK => ?_) AllReadyH.nil
        go_simp
        refine hK.out _ _ ⟨(KD8.out.other (by omega) 1 _).1 0 _ rfl, (AT8.out.put (j := 1) (by simp) _ rfl).1 0 _ rfl, (KE8.out.other (by omega) 1 _).1 0 _ rfl, (KE8.out.other (by omega) 1 _).1 1 _ rfl, (KE8.out.other (by omega) 1 _).1 2 _ rfl, (KE8.out.other (by omega) 1 _).1 3 _ rfl⟩ (fun _ => ?_)
        clear hK K
        refine wpAnyH_done (by kernel_rfl) ?_ _
        go_wp2_with fail
        go_roundw
        case rel => exact ⟨k + 1, _, by go_num, by omega, by omega, by rw [HSN.out]; exact OW8.out.kept (grownBy_set w8 ⟨T, 1, none⟩ _) (fun k hk => ⟨fun e => (by have h1 := OW8.out.row_ge e; injection hk with hk; dsimp only at hk; omega), id⟩), AT8.out.put (by simp) _ rfl, BE8.out.setCell (p := ⟨T, 1, none⟩) (Nat.le_refl _) _⟩
        case measure => simp [intOf]; omega
      · go_simp
        go_at_call 23; (with_reducible refine (big_any ol L _ hL0 (by omega)).mono ?_); rintro e w' ⟨rfl, rfl⟩; rw [← HQ.out]
        refine hK.out _ _ (hHeld) (fun _ => ?_)
        clear hK K
        (refine wpAnyH_take (i := 7) (v := ?_) rfl (by kernel_rfl) (by kernel_rfl) (by kernel_rfl) (fun _ _ _ h => h) (Or.inl ⟨by rfl, ?_⟩) hHeld ?_; rotate_left 1; focus (intro w hSw; (try dsimp only at hSw); go_simp; try with_reducible rfl)); (try simp only [Act.put, List.setIfInBounds_toArray, List.set_cons_zero, List.set_cons_succ])
        (refine wpAnyH_take (i := 16) (v := ?_) rfl (by kernel_rfl) (by kernel_rfl) (by kernel_rfl) (fun _ _ _ h => h) (Or.inl ⟨by rfl, ?_⟩) hHeld ?_; rotate_left 1; focus (intro w hSw; (try dsimp only at hSw); go_simp; try with_reducible rfl)); (try simp only [Act.put, List.setIfInBounds_toArray, List.set_cons_zero, List.set_cons_succ])
        refine wpAnyH_ready (rs := [1, 17]) (by kernel_rfl) (by simp) ?_
        refine AllReadyH.cons rfl (fun K hK => ?_) (AllReadyH.cons rfl (fun K hK => ?_) AllReadyH.nil)
        · go_simp
          refine hK.out _ _ (hHeld) (fun _ => ?_)
          clear hK K
          refine wpAnyH_ready (rs := [17]) (by kernel_rfl) (by simp) ?_
          refine AllReadyH.cons rfl (fun K hK => ?_) AllReadyH.nil
          go_simp
          refine hK.out _ _ (hA _) (fun hHeldA => ?_)
          clear hK K
          refine wpAnyH_ready (rs := [18]) (by kernel_rfl) (by simp) ?_
          refine AllReadyH.cons rfl (fun K hK => ?_) AllReadyH.nil
          refine step_append_Own (w := V.drew.alloc (.cells #[.int .i64 (1 + q), .int .i64 yt, .int .i64 yk, .bool yg, .string yv] 29)) rfl (.tmp 46) (.tmp 62) 22 rfl (T + 1) 29 i0 _ 48 Try.underlying22 hi hz0 hz1 hz2 rfl (R := oprRep) (S := fun _ => False) (l := P) (l' := [(⟨1 + q, yt, yk, yg, yv⟩ : Opr)]) v2 rfl (OWD.out.alloc _) _ 1 1 rfl HSRC.out (by simp only [maxLen]; omega) (by omega) (by omega) (by simp; omega) ?_
          intro v8 w8 own8 gr8 at8
          obtain ⟨A8, c8, hv8, hlc8, hcm8, sl8⟩ := own8.isSlB
          obtain ⟨m8, hm8⟩ : ∃ m8, m8 = (P ++ [(⟨1 + q, yt, yk, yg, yv⟩ : Opr)]).length := ⟨_, rfl⟩
          rw [← hm8] at hv8
          subst hv8
          clear hm8 hlc8 hcm8 sl8
          have AT8 := Lib.hid ((ATD.out.alloc _).grown gr8 (fun k hk e => by have := HRT.out k hk; omega))
          have KD8 := Lib.hid ((KDD.out.alloc _).grown gr8 (fun k hk e => by have := HRD.out k hk; omega))
          have KE8 := Lib.hid ((KED.out.alloc _).grown gr8 (fun k hk e => by have := HRD.out k hk; omega))
          have BE8 := Lib.hid ((BED.out.alloc (Nat.le_of_lt hTVd) _).grown gr8 (by simp; omega) (fun k hk => by have := HRT.out k hk; omega))
          have OW8 := Lib.hid own8
          clear own8 gr8 at8
          obtain ⟨s0, s1, s2, sz⟩ := AT8.out.c3
          refine hK.out _ _ ⟨KD8.out.1 0 _ rfl, AT8.out.1 0 _ rfl, KE8.out.1 0 _ rfl, KE8.out.1 1 _ rfl, KE8.out.1 2 _ rfl, KE8.out.1 3 _ rfl⟩ (fun hHeld8 => ?_)
          clear hK K
          (refine wpAnyH_take (i := 19) (v := ?_) rfl (by kernel_rfl) (by kernel_rfl) (by kernel_rfl) (fun _ _ _ h => h) (Or.inl ⟨by rfl, ?_⟩) hHeld8 ?_; rotate_left 1; focus (intro w hSw; (try dsimp only at hSw); go_simp; try with_reducible rfl)); (try simp only [Act.put, List.setIfInBounds_toArray, List.set_cons_zero, List.set_cons_succ])
          refine wpAnyH_ready (rs := [20]) (by kernel_rfl) (by simp) ?_
          refine AllReadyH.cons rfl (fun K hK => ?_) AllReadyH.nil
          go_simp
          refine hK.out _ _ ⟨(KD8.out.other (by omega) 1 _).1 0 _ rfl, (AT8.out.put (j := 1) (by simp) _ rfl).1 0 _ rfl, (KE8.out.other (by omega) 1 _).1 0 _ rfl, (KE8.out.other (by omega) 1 _).1 1 _ rfl, (KE8.out.other (by omega) 1 _).1 2 _ rfl, (KE8.out.other (by omega) 1 _).1 3 _ rfl⟩ (fun _ => ?_)
          clear hK K
          refine wpAnyH_done (by kernel_rfl) ?_ _
          go_wp2_with fail
          go_roundw
          case rel => exact ⟨k + 1, _, by go_num, by omega, by omega, by rw [HSN.out]; exact OW8.out.kept (grownBy_set w8 ⟨T, 1, none⟩ _) (fun k hk => ⟨fun e => (by have h1 := OW8.out.row_ge e; injection hk with hk; dsimp only at hk; omega), id⟩), AT8.out.put (by simp) _ rfl, BE8.out.setCell (p := ⟨T, 1, none⟩) (Nat.le_refl _) _⟩
          case measure => simp [intOf]; omega
        · go_simp
          refine hK.out _ _ (hA _) (fun hHeldA => ?_)
          clear hK K
          refine wpAnyH_ready (rs := [1]) (by kernel_rfl) (by simp) ?_
          refine AllReadyH.cons rfl (fun K hK => ?_) AllReadyH.nil
          go_simp
          refine hK.out _ _ (hHeldA) (fun _ => ?_)
          clear hK K
          refine wpAnyH_ready (rs := [18]) (by kernel_rfl) (by simp) ?_
          refine AllReadyH.cons rfl (fun K hK => ?_) AllReadyH.nil
          refine step_append_Own (w := V.drew.alloc (.cells #[.int .i64 (1 + q), .int .i64 yt, .int .i64 yk, .bool yg, .string yv] 29)) rfl (.tmp 46) (.tmp 62) 22 rfl (T + 1) 29 i0 _ 48 Try.underlying22 hi hz0 hz1 hz2 rfl (R := oprRep) (S := fun _ => False) (l := P) (l' := [(⟨1 + q, yt, yk, yg, yv⟩ : Opr)]) v2 rfl (OWD.out.alloc _) _ 1 1 rfl HSRC.out (by simp only [maxLen]; omega) (by omega) (by omega) (by simp; omega) ?_
          intro v8 w8 own8 gr8 at8
          obtain ⟨A8, c8, hv8, hlc8, hcm8, sl8⟩ := own8.isSlB
          obtain ⟨m8, hm8⟩ : ∃ m8, m8 = (P ++ [(⟨1 + q, yt, yk, yg, yv⟩ : Opr)]).length := ⟨_, rfl⟩
          rw [← hm8] at hv8
          subst hv8
          clear hm8 hlc8 hcm8 sl8
          have AT8 := Lib.hid ((ATD.out.alloc _).grown gr8 (fun k hk e => by have := HRT.out k hk; omega))
          have KD8 := Lib.hid ((KDD.out.alloc _).grown gr8 (fun k hk e => by have := HRD.out k hk; omega))
          have KE8 := Lib.hid ((KED.out.alloc _).grown gr8 (fun k hk e => by have := HRD.out k hk; omega))
          have BE8 := Lib.hid ((BED.out.alloc (Nat.le_of_lt hTVd) _).grown gr8 (by simp; omega) (fun k hk => by have := HRT.out k hk; omega))
          have OW8 := Lib.hid own8
          clear own8 gr8 at8
          obtain ⟨s0, s1, s2, sz⟩ := AT8.out.c3
          refine hK.out _ _ ⟨KD8.out.1 0 _ rfl, AT8.out.1 0 _ rfl, KE8.out.1 0 _ rfl, KE8.out.1 1 _ rfl, KE8.out.1 2 _ rfl, KE8.out.1 3 _ rfl⟩ (fun hHeld8 => ?_)
          clear hK K
          (refine wpAnyH_take (i := 19) (v := ?_) rfl (by kernel_rfl) (by kernel_rfl) (by kernel_rfl) (fun _ _ _ h => h) (Or.inl ⟨by rfl, ?_⟩) hHeld8 ?_; rotate_left 1; focus (intro w hSw; (try dsimp only at hSw); go_simp; try with_reducible rfl)); (try simp only [Act.put, List.setIfInBounds_toArray, List.set_cons_zero, List.set_cons_succ])
          refine wpAnyH_ready (rs := [20]) (by kernel_rfl) (by simp) ?_
          refine AllReadyH.cons rfl (fun K hK => ?_) AllReadyH.nil
          go_simp
          refine hK.out _ _ ⟨(KD8.out.other (by omega) 1 _).1 0 _ rfl, (AT8.out.put (j := 1) (by simp) _ rfl).1 0 _ rfl, (KE8.out.other (by omega) 1 _).1 0 _ rfl, (KE8.out.other (by omega) 1 _).1 1 _ rfl, (KE8.out.other (by omega) 1 _).1 2 _ rfl, (KE8.out.other (by omega) 1 _).1 3 _ rfl⟩ (fun _ => ?_)
          clear hK K
          refine wpAnyH_done (by kernel_rfl) ?_ _
          go_wp2_with fail
          go_roundw
          case rel => exact ⟨k + 1, _, by go_num, by omega, by omega, by rw [HSN.out]; exact OW8.out.kept (grownBy_set w8 ⟨T, 1, none⟩ _) (fun k hk => ⟨fun e => (by have h1 := OW8.out.row_ge e; injection hk with hk; dsimp only at hk; omega), id⟩), AT8.out.put (by simp) _ rfl, BE8.out.setCell (p := ⟨T, 1, none⟩) (Nat.le_refl _) _⟩
          case measure => simp [intOf]; omega
    · have hend : n ≤ k ∨ (k < n ∧ k = 5) := by omega
      have HE := Lib.hid (show P = playOps t lsn ⟨xl, xo, xn⟩ by
        rw [HP.out, HOP.out]
        rcases hend with h | ⟨_, h⟩
        · rw [List.take_of_length_le (by rw [← HL.out]; exact h), List.take_of_length_le (by rw [← HL.out]; omega)]
        · rw [h])
      obtain ⟨A5, c5, hv5, hlc5, hcm5, sl5⟩ := OW.out.isSlR
      subst hv5
      obtain ⟨m5, hm5⟩ : ∃ m5, m5 = P.length := ⟨_, rfl⟩
      rw [← hm5] at OW AT
      obtain ⟨t0, t1, t2, tz⟩ := AT.out.c3
      obtain ⟨r0, r1, r2, rz⟩ := (R0.out.below BE.out (by omega)).c3
      have hRs := (R0.out.below BE.out (by omega)).lt
      have BEw := Lib.hid (B0.out.trans (BE.out.mono (by omega)))
      clear hlt hm5 sl5 hlc5 hcm5
      have hd : decide ((k : Int) < (n : Int)) = false ∨ (decide ((k : Int) < (n : Int)) = true ∧ decide ((k : Int) < 5) = false) := by
        rcases hend with h | ⟨h1, h2⟩
        · left; exact decide_eq_false (by omega)
        · right; exact ⟨decide_eq_true (by omega), decide_eq_false (by omega)⟩
      clear hend
      rcases hd with hd | ⟨hd, hd2⟩
      all_goals
        have hdn := hd
        simp only [Int.ofNat_lt] at hdn
        go_wp2_with fail
        refine bodyPost_ret (by simp [results, Try.results39, go_sem, r0, r1, r2]; try rfl) rfl ?_
        exact ⟨_, rfl, by rw [← HE.out]; exact ((((OW.out.mono (show w.heap.size ≤ T + 1 by omega)).kept (grownBy_set _ ⟨w.heap.size + 1, 0, none⟩ _) (fun k hk => ⟨fun e => (by have h1 := OW.out.row_ge e; injection hk with hk; dsimp only at hk; omega), id⟩)).kept (grownBy_set _ ⟨w.heap.size + 1, 1, none⟩ _) (fun k hk => ⟨fun e => (by have h1 := OW.out.row_ge e; injection hk with hk; dsimp only at hk; omega), id⟩)).kept (grownBy_set _ ⟨w.heap.size + 1, 2, none⟩ _) (fun k hk => ⟨fun e => (by have h1 := OW.out.row_ge e; injection hk with hk; dsimp only at hk; omega), id⟩)), set3_below BEw.out (by omega) _ _ _⟩
end Go.Proofs.Ytcohheoahdbgmaa
