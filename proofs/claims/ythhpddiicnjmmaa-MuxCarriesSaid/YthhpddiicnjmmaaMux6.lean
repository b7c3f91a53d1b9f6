/- Contract of the mux: client. Written by gen_mux5.py. -/
import Derived.Test.YthhpddiicnjmmaaMuxC
import Derived.Deep.RegionHeld3
import Derived.Deep.Cut
set_option linter.unusedVariables false
set_option linter.unusedSimpArgs false
set_option maxRecDepth 100000
namespace Go.Proofs.Ythhpddiicnjmmaa
open Go.RowKit

set_option maxHeartbeats 16000000 in
theorem muxClient_any (S : Nat → Prop) (gm g : Nat) (x : Mx) (w : World) (hS : ∀ k, S k → k < w.heap.size) (h : MuxOwn w S gm g x) (hf : x.Fine) (t : Txn) (A : Option Addr) (n c : Nat) (A2 : Option Addr) (n2 c2 : Nat) (ht : IsSl chgRep w S A n t.changes) (hs : IsSl strRep w S A2 n2 t.signals) (hn : n ≤ 1000) (hn2 : n2 ≤ 1000) (hl : I64 t.lsn) :
    Calls Try.prog 78 #[.pointer (some ⟨gm, 0, none⟩), txnV t A n c A2 n2 c2] w (ItmPost w S gm g (x.cliI t) (x.cliM t)) := by
  obtain ⟨i0, hi, hz0, hz1, hz2⟩ := info_parts info_note
  obtain ⟨j0, ji, jz0, jz1, jz2⟩ := info_parts info_opr
  unfold txnV
  have HO := Lib.hid h
  have HS := Lib.hid hS
  have HF := Lib.hid hf
  have HC := Lib.hid ht
  have HG := Lib.hid hs
  have HLC := Lib.hid ht.len
  have HLS := Lib.hid hs.len
  obtain ⟨tl, tk, tch, tsg, tm⟩ := t
  dsimp only at HC HG HLC HLS hl ⊢
  clear h hS hf ht hs
  obtain ⟨TB, hTB⟩ : ∃ TB, TB = w.heap.size := ⟨_, rfl⟩
  obtain ⟨RB, hRB⟩ : ∃ RB, RB = w.heap.size + 1 := ⟨_, rfl⟩
  obtain ⟨XB, hXB⟩ : ∃ XB, XB = w.heap.size + 1 + 1 := ⟨_, rfl⟩
  have H1 := Lib.hid hTB
  have H2 := Lib.hid hRB
  have H3 := Lib.hid hXB
  obtain ⟨W, hW⟩ : ∃ W, W = ((w.alloc (.cells #[.int .i64 tl, .int .i64 tk, .slice A n c, .slice A2 n2 c2, .int .i64 tm] 68)).alloc (.cells #[.int .i64 0, .slice none 0 0, .slice none 0 0] 62)).alloc (.cells #[.int .i64 tl, .slice none 0 0, .slice none 0 0] 62) := ⟨_, rfl⟩
  have HW := Lib.hid hW
  have I0 := Lib.hid (cli_start HS.out HO.out hTB hRB hXB hW)
  clear hW hTB hRB hXB
  have ntx : (TB = XB) = False := by simp; have := H1.out; have := H3.out; omega
  have nxt : (XB = TB) = False := by simp; have := H1.out; have := H3.out; omega
  have nrx : (RB = XB) = False := by simp; have := H2.out; have := H3.out; omega
  have nxr : (XB = RB) = False := by simp; have := H2.out; have := H3.out; omega
  go_enter Try.func78, Try.ntmps78
  go_wp2_with fail
  rw [← HW.out, ← H3.out, ← H2.out, ← H1.out]
  go_loopw [7, 16] (fun _ i wr => ∃ (k : Nat) (Sr : Nat → Prop) (v : Value), i = .int .i64 k ∧ k ≤ n2 ∧ Cli w wr S Sr gm g TB RB XB (x.accs tl (tsg.take k)).1 [.int .i64 tl, .int .i64 tk, .slice A n c, .slice A2 n2 c2, .int .i64 tm] [.int .i64 tl, .slice none 0 0, v] ∧ Own noteRep wr (XB + 1) (fun _ => False) 91 v (x.accs tl (tsg.take k)).2 ∧ (∀ r, rowOf v = some r → Sr r)) (fun _ i _ => n2 - (intOf i).toNat)
  case atStart => exact ⟨0, _, _, rfl, Nat.zero_le _, I0.out, Own.nil _ _ _ (fun _ h => h.elim) _ _, fun r hr => by simp [rowOf] at hr⟩
  case round =>
    obtain ⟨k, Sr, v, rfl, hk, hcli, hown, hrow⟩ := hrel
    obtain ⟨y, hy⟩ : ∃ y, y = (x.accs tl (tsg.take k)).1 := ⟨_, rfl⟩
    obtain ⟨N, hN⟩ : ∃ N, N = (x.accs tl (tsg.take k)).2 := ⟨_, rfl⟩
    rw [← hy] at hcli
    rw [← hN] at hown
    have CL := Lib.hid hcli
    have OW := Lib.hid hown
    have HY := Lib.hid hy
    have HN := Lib.hid hN
    have HRW := Lib.hid hrow
    have HYF := Lib.hid (show y.Fine by rw [hy]; exact HF.out.accs _ _)
    have hNl : N.length ≤ 1000 := by rw [hN]; exact Nat.le_trans (accs_len x tl (tsg.take k)) (by rw [List.length_take]; omega)
    have hyl := may_short HYF.out.may
    obtain ⟨A5, c5, hv5, _, _, _⟩ := hown.isSlR
    subst hv5
    obtain ⟨m5, hm5⟩ : ∃ m5, m5 = N.length := ⟨_, rfl⟩
    rw [← hm5] at OW HRW CL hNl
    have HM5 := Lib.hid hm5
    obtain ⟨t0, t1, t2, t3, t4, tz⟩ := CL.out.bt.c5
    obtain ⟨x0, x1, x2, xz⟩ := CL.out.bx.c3
    have hcl := CL.out.szs
    have hTl := hcl.1
    have hXl := hcl.2.2
    clear hy hN hown hcli hrow hm5 hcl
    by_cases hlt : k < n2
    · obtain ⟨b0, off, s, rfl, hb0, hsx, hss, hc0⟩ := HG.out.strT hlt (fun p hp => CL.out.rest.cell hp)
      have hd : decide ((k : Int) < (n2 : Int)) = true := decide_eq_true (by omega)
      have hki : (k : Int) < (n2 : Int) := by omega
      have hk0 : (0 : Int) ≤ (k : Int) := by omega
      have HSX := Lib.hid (show x.accs tl (tsg.take (k + 1)) = (y.acc s tl, N ++ y.accN s tl) by rw [take_snoc hsx, Mx.accs_snoc, ← HY.out, ← HN.out])
      have HLT := Lib.hid (show wr.drew.cell? ⟨TB, 0, none⟩ = some (.int .i64 tl) from t0)
      have HNX := Lib.hid (show ∀ (w7 : World) (v7 : Value), w7.cell? ⟨TB, 0, none⟩ = some (.int .i64 tl) → (w7.setCell ⟨XB, 2, none⟩ v7).cell? ⟨TB, 0, none⟩ = some (.int .i64 tl) from fun w7 v7 h => (World.cell?_setCell_other _ _ _ _ (fun e => by injection e with e1; have := H1.out; have := H3.out; omega)).trans h)
      have HSD := Lib.hid (show ∀ k, Sr k → k < wr.drew.heap.size from CL.out.hS)
      have HOD := Lib.hid (show MuxOwn wr.drew Sr gm g y from CL.out.own.drewN 1)
      clear hsx
      go_wp2_with fail

      refine wp_region_held_drew (S := fun w' => w'.cell? ⟨TB, 0, none⟩ = some (.int .i64 tl)) (by kernel_rfl) (show wr.drew.cell? ⟨TB, 0, none⟩ = some (.int .i64 tl) from HLT.out) (fun hHeld => ?_)
      (refine wpAnyH_take (i := 0) (v := ?_) rfl (by kernel_rfl) (by kernel_rfl) (by kernel_rfl) (fun _ _ _ h => h) (Or.inl ⟨by rfl, ?_⟩) hHeld ?_; rotate_left 1; focus (intro w hSw; (try dsimp only at hSw); go_simp; try with_reducible rfl)); (try simp only [Act.put, List.getElem_toArray, List.getElem_cons_zero, List.getElem_cons_succ, List.setIfInBounds_toArray, List.set_cons_zero, List.set_cons_succ])
      (refine wpAnyH_take (i := 2) (v := ?_) rfl (by kernel_rfl) (by kernel_rfl) (by kernel_rfl) (fun _ _ _ h => h) (Or.inl ⟨by rfl, ?_⟩) hHeld ?_; rotate_left 1; focus (intro w hSw; (try dsimp only at hSw); go_simp; try with_reducible rfl)); (try simp only [Act.put, List.getElem_toArray, List.getElem_cons_zero, List.getElem_cons_succ, List.setIfInBounds_toArray, List.set_cons_zero, List.set_cons_succ])
      (refine wpAnyH_take (i := 3) (v := ?_) rfl (by kernel_rfl) (by kernel_rfl) (by kernel_rfl) (fun _ _ _ h => h) (Or.inl ⟨by rfl, ?_⟩) hHeld ?_; rotate_left 1; focus (intro w hSw; (try dsimp only at hSw); go_simp; try with_reducible rfl)); (try simp only [Act.put, List.getElem_toArray, List.getElem_cons_zero, List.getElem_cons_succ, List.setIfInBounds_toArray, List.set_cons_zero, List.set_cons_succ])
      (refine wpAnyH_take (i := 4) (v := ?_) rfl (by kernel_rfl) (by kernel_rfl) (by kernel_rfl) (fun _ _ _ h => h) (Or.inl ⟨by rfl, ?_⟩) hHeld ?_; rotate_left 1; focus (intro w hSw; (try dsimp only at hSw); go_simp; try with_reducible rfl)); (try simp only [Act.put, List.getElem_toArray, List.getElem_cons_zero, List.getElem_cons_succ, List.setIfInBounds_toArray, List.set_cons_zero, List.set_cons_succ])
      (refine wpAnyH_take (i := 5) (v := ?_) rfl (by kernel_rfl) (by kernel_rfl) (by kernel_rfl) (fun _ _ _ h => h) (Or.inl ⟨by rfl, ?_⟩) hHeld ?_; rotate_left 1; focus (intro w hSw; (try dsimp only at hSw); go_simp; try with_reducible rfl)); (try simp only [Act.put, List.getElem_toArray, List.getElem_cons_zero, List.getElem_cons_succ, List.setIfInBounds_toArray, List.set_cons_zero, List.set_cons_succ])
      refine wpAnyH_ready (rs := [1, 6]) (by kernel_rfl) (by simp) ?_
      refine AllReadyH.cons rfl (fun K hK => ?_) (AllReadyH.cons rfl (fun K hK => ?_) AllReadyH.nil)
      · go_simp
        refine hK.out _ _ (hHeld) (fun hHeld2 => ?_)
        clear hK K hHeld; have hHeld := hHeld2; clear hHeld2; (try simp only [Act.put, List.getElem_toArray, List.getElem_cons_zero, List.getElem_cons_succ, List.setIfInBounds_toArray, List.set_cons_zero, List.set_cons_succ])
        refine wpAnyH_ready (rs := [6]) (by kernel_rfl) (by simp) ?_
        refine AllReadyH.cons rfl (fun K hK => ?_) AllReadyH.nil
        go_simp
        go_at_call 133; (with_reducible refine (muxAccept_any Sr gm g y wr.drew HSD.out HOD.out hyl s hss tl hl).mono ?_); rintro e w2 ⟨A6, n6, c6, rfl, s6, l6, m6, own6, rest6⟩; have R6 := Lib.hid rest6; have M6 := Lib.hid own6; have S6 := Lib.hid s6; have HL6 := Lib.hid s6.len; have HA6 := Lib.hid (accN_len y s tl); have HS6 := Lib.hid (show w2.cell? ⟨TB, 0, none⟩ = some (.int .i64 tl) from (rest6.cell (p := ⟨TB, 0, none⟩) CL.out.stb).trans HLT.out); obtain ⟨z0, z1, z2, zz⟩ := (CL.out.bx.drew.rest R6.out CL.out.sxb).c3; have O6 := Lib.hid ((OW.out.drewN 1).rest (w := wr.drewN 1) rest6 HRW.out); have hxw2 : XB + 1 ≤ w2.heap.size := Nat.le_trans hXl rest6.size; clear s6 own6 rest6
        refine hK.out _ _ (HS6.out) (fun hHeld2 => ?_)
        clear hK K hHeld; have hHeld := hHeld2; clear hHeld2; (try simp only [Act.put, List.getElem_toArray, List.getElem_cons_zero, List.getElem_cons_succ, List.setIfInBounds_toArray, List.set_cons_zero, List.set_cons_succ])
        refine wpAnyH_ready (rs := [7]) (by kernel_rfl) (by simp) ?_
        refine AllReadyH.cons rfl (fun K hK => ?_) AllReadyH.nil
        refine step_append_Own (w := w2) rfl (.tmp 21) (.tmp 26) 60 rfl (XB + 1) 91 i0 _ 56 Try.underlying60 hi hz0 hz1 hz2 rfl (R := noteRep) (S := fun _ => False) (l := N) (l' := y.accN s tl) (.slice A5 m5 c5) rfl O6.out A6 n6 c6 rfl (S6.out.srcK flat_note (fun _ _ => rfl)) (by rw [← HM5.out, HL6.out]; have := HA6.out; simp only [maxLen]; omega) (by rw [← HM5.out, HL6.out]; have := HA6.out; omega) (by omega) hxw2 ?_; intro v7 w7 own7 gr7 at7; obtain ⟨A7, c7, rfl, _, _, _⟩ := own7.isSlR; obtain ⟨q7, hq7⟩ : ∃ q7, q7 = (N ++ y.accN s tl).length := ⟨_, rfl⟩; rw [← hq7] at own7 at7 ⊢; have HX7 := Lib.hid ((CL.out.bx.drew.rest R6.out CL.out.sxb).grown gr7 (fun k hk e => by have := O6.out.row_ge hk; omega)); obtain ⟨y0, y1, y2, yz⟩ := HX7.out.c3; clear hq7; have O7 := Lib.hid own7; have G7 := Lib.hid gr7; have AT7 := Lib.hid at7; have HS7 := Lib.hid (show w7.cell? ⟨TB, 0, none⟩ = some (.int .i64 tl) from (cell_grown gr7 (Nat.lt_of_lt_of_le hTl R6.out.size) (fun e => by have h9 := O6.out.row_ge e; dsimp only at h9; have := H1.out; have := H3.out; omega)).trans HS6.out); clear own7 gr7 at7
        refine hK.out _ _ (HS7.out) (fun hHeld2 => ?_)
        clear hK K hHeld; have hHeld := hHeld2; clear hHeld2; (try simp only [Act.put, List.getElem_toArray, List.getElem_cons_zero, List.getElem_cons_succ, List.setIfInBounds_toArray, List.set_cons_zero, List.set_cons_succ])
        (refine wpAnyH_take (i := 8) (v := ?_) rfl (by kernel_rfl) (by kernel_rfl) (by kernel_rfl) (fun _ _ _ h => h) (Or.inl ⟨by rfl, ?_⟩) hHeld ?_; rotate_left 1; focus (intro w hSw; (try dsimp only at hSw); go_simp; try with_reducible rfl)); (try simp only [Act.put, List.getElem_toArray, List.getElem_cons_zero, List.getElem_cons_succ, List.setIfInBounds_toArray, List.set_cons_zero, List.set_cons_succ])
        refine wpAnyH_ready (rs := [9]) (by kernel_rfl) (by simp) ?_
        refine AllReadyH.cons rfl (fun K hK => ?_) AllReadyH.nil
        go_simp
        refine hK.out _ _ (HNX.out _ _ HS7.out) (fun hHeld2 => ?_)
        clear hK K hHeld; have hHeld := hHeld2; clear hHeld2; (try simp only [Act.put, List.getElem_toArray, List.getElem_cons_zero, List.getElem_cons_succ, List.setIfInBounds_toArray, List.set_cons_zero, List.set_cons_succ])
        refine wpAnyH_done (by kernel_rfl) ?_ _
        have C7 := Lib.hid (CL.out.noted R6.out M6.out H1.out H2.out H3.out (fun e => O6.out.row_ge e) HRW.out G7.out (.slice A7 q7 c7))
        go_wp2
        go_roundw
        case rel => exact ⟨k + 1, _, .slice A7 q7 c7, by go_num, by omega, by rw [HSX.out]; exact C7.out, by rw [HSX.out]; exact O7.out.kept (grown_setB w7 ⟨XB, 2, none⟩ (.slice A7 q7 c7)) (fun k hk => ⟨fun e => (by have := O7.out.row_ge e; injection hk with hk; dsimp only at hk; omega), fun h => h⟩), fun r hr => row_new AT7.out G7.out (fun r h => HRW.out r h) O7.out hr⟩
        case measure => simp [intOf]; omega
      · go_simp
        go_at_call 133; (with_reducible refine (muxAccept_any Sr gm g y wr.drew HSD.out HOD.out hyl s hss tl hl).mono ?_); rintro e w2 ⟨A6, n6, c6, rfl, s6, l6, m6, own6, rest6⟩; have R6 := Lib.hid rest6; have M6 := Lib.hid own6; have S6 := Lib.hid s6; have HL6 := Lib.hid s6.len; have HA6 := Lib.hid (accN_len y s tl); have HS6 := Lib.hid (show w2.cell? ⟨TB, 0, none⟩ = some (.int .i64 tl) from (rest6.cell (p := ⟨TB, 0, none⟩) CL.out.stb).trans HLT.out); obtain ⟨z0, z1, z2, zz⟩ := (CL.out.bx.drew.rest R6.out CL.out.sxb).c3; have O6 := Lib.hid ((OW.out.drewN 1).rest (w := wr.drewN 1) rest6 HRW.out); have hxw2 : XB + 1 ≤ w2.heap.size := Nat.le_trans hXl rest6.size; clear s6 own6 rest6
        refine hK.out _ _ (HS6.out) (fun hHeld2 => ?_)
        clear hK K hHeld; have hHeld := hHeld2; clear hHeld2; (try simp only [Act.put, List.getElem_toArray, List.getElem_cons_zero, List.getElem_cons_succ, List.setIfInBounds_toArray, List.set_cons_zero, List.set_cons_succ])
        refine wpAnyH_ready (rs := [1]) (by kernel_rfl) (by simp) ?_
        refine AllReadyH.cons rfl (fun K hK => ?_) AllReadyH.nil
        go_simp
        refine hK.out _ _ (hHeld) (fun hHeld2 => ?_)
        clear hK K hHeld; have hHeld := hHeld2; clear hHeld2; (try simp only [Act.put, List.getElem_toArray, List.getElem_cons_zero, List.getElem_cons_succ, List.setIfInBounds_toArray, List.set_cons_zero, List.set_cons_succ])
        refine wpAnyH_ready (rs := [7]) (by kernel_rfl) (by simp) ?_
        refine AllReadyH.cons rfl (fun K hK => ?_) AllReadyH.nil
        refine step_append_Own (w := w2) rfl (.tmp 21) (.tmp 26) 60 rfl (XB + 1) 91 i0 _ 56 Try.underlying60 hi hz0 hz1 hz2 rfl (R := noteRep) (S := fun _ => False) (l := N) (l' := y.accN s tl) (.slice A5 m5 c5) rfl O6.out A6 n6 c6 rfl (S6.out.srcK flat_note (fun _ _ => rfl)) (by rw [← HM5.out, HL6.out]; have := HA6.out; simp only [maxLen]; omega) (by rw [← HM5.out, HL6.out]; have := HA6.out; omega) (by omega) hxw2 ?_; intro v7 w7 own7 gr7 at7; obtain ⟨A7, c7, rfl, _, _, _⟩ := own7.isSlR; obtain ⟨q7, hq7⟩ : ∃ q7, q7 = (N ++ y.accN s tl).length := ⟨_, rfl⟩; rw [← hq7] at own7 at7 ⊢; have HX7 := Lib.hid ((CL.out.bx.drew.rest R6.out CL.out.sxb).grown gr7 (fun k hk e => by have := O6.out.row_ge hk; omega)); obtain ⟨y0, y1, y2, yz⟩ := HX7.out.c3; clear hq7; have O7 := Lib.hid own7; have G7 := Lib.hid gr7; have AT7 := Lib.hid at7; have HS7 := Lib.hid (show w7.cell? ⟨TB, 0, none⟩ = some (.int .i64 tl) from (cell_grown gr7 (Nat.lt_of_lt_of_le hTl R6.out.size) (fun e => by have h9 := O6.out.row_ge e; dsimp only at h9; have := H1.out; have := H3.out; omega)).trans HS6.out); clear own7 gr7 at7
        refine hK.out _ _ (HS7.out) (fun hHeld2 => ?_)
        clear hK K hHeld; have hHeld := hHeld2; clear hHeld2; (try simp only [Act.put, List.getElem_toArray, List.getElem_cons_zero, List.getElem_cons_succ, List.setIfInBounds_toArray, List.set_cons_zero, List.set_cons_succ])
        (refine wpAnyH_take (i := 8) (v := ?_) rfl (by kernel_rfl) (by kernel_rfl) (by kernel_rfl) (fun _ _ _ h => h) (Or.inl ⟨by rfl, ?_⟩) hHeld ?_; rotate_left 1; focus (intro w hSw; (try dsimp only at hSw); go_simp; try with_reducible rfl)); (try simp only [Act.put, List.getElem_toArray, List.getElem_cons_zero, List.getElem_cons_succ, List.setIfInBounds_toArray, List.set_cons_zero, List.set_cons_succ])
        refine wpAnyH_ready (rs := [9]) (by kernel_rfl) (by simp) ?_
        refine AllReadyH.cons rfl (fun K hK => ?_) AllReadyH.nil
        go_simp
        refine hK.out _ _ (HNX.out _ _ HS7.out) (fun hHeld2 => ?_)
        clear hK K hHeld; have hHeld := hHeld2; clear hHeld2; (try simp only [Act.put, List.getElem_toArray, List.getElem_cons_zero, List.getElem_cons_succ, List.setIfInBounds_toArray, List.set_cons_zero, List.set_cons_succ])
        refine wpAnyH_done (by kernel_rfl) ?_ _
        have C7 := Lib.hid (CL.out.noted R6.out M6.out H1.out H2.out H3.out (fun e => O6.out.row_ge e) HRW.out G7.out (.slice A7 q7 c7))
        go_wp2
        go_roundw
        case rel => exact ⟨k + 1, _, .slice A7 q7 c7, by go_num, by omega, by rw [HSX.out]; exact C7.out, by rw [HSX.out]; exact O7.out.kept (grown_setB w7 ⟨XB, 2, none⟩ (.slice A7 q7 c7)) (fun k hk => ⟨fun e => (by have := O7.out.row_ge e; injection hk with hk; dsimp only at hk; omega), fun h => h⟩), fun r hr => row_new AT7.out G7.out (fun r h => HRW.out r h) O7.out hr⟩
        case measure => simp [intOf]; omega
    · obtain rfl : n2 = k := by omega
      have hd : decide ((n2 : Int) < (n2 : Int)) = false := by simp
      have HYE := Lib.hid (show x.accs tl tsg = (y, N) by rw [HY.out, HN.out, List.take_of_length_le (by rw [← HLS.out]; exact Nat.le_refl _)])
      clear hlt
      go_wp2_with fail
      go_loopw [9, 33] (fun _ i wr => ∃ (k : Nat) (Sr : Nat → Prop) (v : Value), i = .int .i64 k ∧ k ≤ n ∧ Cli w wr S Sr gm g TB RB XB y [.int .i64 tl, .int .i64 tk, .slice A n c, .slice A2 n2 c2, .int .i64 tm] [.int .i64 tl, v, .slice A5 m5 c5] ∧ Own oprRep wr (XB + 1) (fun _ => False) 71 v (y.ops tl (tch.take k)) ∧ Own noteRep wr (XB + 1) (fun _ => False) 91 (.slice A5 m5 c5) N ∧ (∀ r, rowOf v = some r → Sr r ∧ rowOf (.slice A5 m5 c5) ≠ some r) ∧ (∀ r, rowOf (.slice A5 m5 c5) = some r → Sr r)) (fun _ i _ => n - (intOf i).toNat)
      case atStart => exact ⟨0, Sr, _, rfl, Nat.zero_le _, CL.out, Own.nil _ _ _ (fun _ h => h.elim) _ _, OW.out, (fun r hr => by simp [rowOf] at hr), HRW.out⟩
      case round =>
        clear t0 t1 t2 t3 t4 tz x0 x1 x2 xz hTl hXl
        obtain ⟨wo, rfl⟩ : ∃ q : World, q = wr := ⟨_, rfl⟩
        obtain ⟨q, Su, v, rfl, hq, hcli, hown, hnot, hrow, hrow2⟩ := hrel
        obtain ⟨O, hO⟩ : ∃ O, O = y.ops tl (tch.take q) := ⟨_, rfl⟩
        rw [← hO] at hown
        have CU := Lib.hid hcli
        have OU := Lib.hid hown
        have NU := Lib.hid hnot
        have HOO := Lib.hid hO
        have HRU := Lib.hid hrow
        have HRV := Lib.hid hrow2
        have hOl : O.length ≤ 1000 := by rw [hO]; exact Nat.le_trans (ops_len y tl _) (by rw [List.length_take]; omega)
        obtain ⟨A8, c8, hv8, _, _, _⟩ := hown.isSlR
        subst hv8
        obtain ⟨m8, hm8⟩ : ∃ m8, m8 = O.length := ⟨_, rfl⟩
        rw [← hm8] at OU HRU CU hOl
        have HM8 := Lib.hid hm8
        obtain ⟨t0, t1, t2, t3, t4, tz⟩ := CU.out.bt.c5
        obtain ⟨x0, x1, x2, xz⟩ := CU.out.bx.c3
        have hcl := CU.out.szs
        have hTl := hcl.1
        have hXl := hcl.2.2
        clear hO hown hcli hrow hrow2 hnot hm8 hcl
        by_cases hlt : q < n
        · obtain ⟨b0, off, ch, rfl, hb0, hcx, hcw, k0, k1, k2, k3⟩ := HC.out.chgT hlt (fun p hp => CU.out.rest.cell hp)
          have hd : decide ((q : Int) < (n : Int)) = true := decide_eq_true (by omega)
          have hqi : (q : Int) < (n : Int) := by omega
          have hq0 : (0 : Int) ≤ (q : Int) := by omega
          have HCX := Lib.hid (show y.ops tl (tch.take (q + 1)) = O ++ (if y.capt ch.table = true then [chgO tl ch] else []) by rw [take_snoc hcx, Mx.ops_snoc, ← HOO.out])
          have HCW := Lib.hid (show (chgO tl ch).wf from ⟨hl, hcw.1, hcw.2.1, hcw.2.2⟩)
          have HI := Lib.hid hcw.1
          obtain ⟨ct, ck, cg, cv⟩ := ch
          dsimp only at k0 k1 k2 k3
          obtain ⟨wa, hwa⟩ : ∃ wa, wa = wo.alloc (.cells #[.int .i64 ct, .int .i64 ck, .bool cg, .string cv] 162) := ⟨_, rfl⟩
          have HWA := Lib.hid hwa
          have BA := Lib.hid (show Below wo.heap.size wo wa by rw [hwa]; exact (Below.refl _ _).alloc (Nat.le_refl _) _)
          have KA := Lib.hid (show Blk wa wo.heap.size [.int .i64 ct, .int .i64 ck, .bool cg, .string cv] by rw [hwa]; exact Blk.new rfl rfl)
          have CA := Lib.hid (CU.out.below BA.out)
          obtain ⟨kb, hkb⟩ : ∃ kb, kb = wo.heap.size := ⟨_, rfl⟩
          have HKB := Lib.hid hkb
          rw [← hkb] at KA
          clear hcx hcw hwa hkb
          have nkx : (XB = kb) = False := by simp; have := HKB.out; omega
          have nxk : (kb = XB) = False := by simp; have := HKB.out; omega
          cases hcp : y.capt ct with
          | false =>
            have HCP := Lib.hid hcp
            rw [if_neg (by rw [hcp]; simp), List.append_nil] at HCX
            clear hcp
            go_wp2_with (first
              | (go_at_call 30; rw [← HWA.out]; (with_reducible refine (muxCapt_any Su gm g y wa CA.out.own HYF.out ct HI.out).mono ?_); rintro e w2 ⟨rfl, bel2⟩; rw [HCP.out]; have C2 := Lib.hid (CA.out.below bel2); have B2 := Lib.hid (bel_n BA.out bel2); clear bel2)
              | fail)
            go_roundw
            case rel => exact ⟨q + 1, Su, .slice A8 m8 c8, by go_num, by omega, C2.out, by rw [HCX.out]; exact OU.out.below B2.out, NU.out.below B2.out, HRU.out, HRV.out⟩
            case measure => simp [intOf]; omega
          | true =>
            have HCP := Lib.hid hcp
            rw [if_pos hcp] at HCX
            clear hcp
            go_wp2_with (first
              | (go_at_call 30; rw [← HWA.out, ← HKB.out]; (with_reducible refine (muxCapt_any Su gm g y wa CA.out.own HYF.out ct HI.out).mono ?_); rintro e w2 ⟨rfl, bel2⟩; rw [HCP.out]; have C2 := Lib.hid (CA.out.below bel2); have B2 := Lib.hid (bel_n BA.out bel2); have K2 := Lib.hid (KA.out.after bel2); obtain ⟨a0, a1, a2, a3, az⟩ := K2.out.c4; obtain ⟨t0, t1, t2, t3, t4, tz⟩ := C2.out.bt.c5; obtain ⟨x0, x1, x2, xz⟩ := C2.out.bx.c3; have O2 := Lib.hid (OU.out.below B2.out); have hX2 := C2.out.szs.2.2; clear bel2)
              | (at_builtin; refine wpList_append_Own _ rfl _ _ 59 rfl (XB + 1) 71 j0 _ 48 Try.underlying59 ji jz0 jz1 jz2 rfl (R := oprRep) (S := fun _ => False) (l := O) (l' := [chgO tl ⟨ct, ck, cg, cv⟩]) (.slice A8 m8 c8) rfl (O2.out.alloc _) _ 1 1 rfl (Src.new (cs := (chgO tl ⟨ct, ck, cg, cv⟩).cells) ⟨rfl, HCW.out⟩) (by rw [← HM8.out]; simp only [maxLen]; omega) (by rw [← HM8.out]; omega) (by omega) (by simp; omega) ?_; intro v9 w9 own9 gr9 at9; obtain ⟨A9, c9, rfl, _, _, _⟩ := own9.isSlR; obtain ⟨q9, hq9⟩ : ∃ q9, q9 = (O ++ [chgO tl ⟨ct, ck, cg, cv⟩]).length := ⟨_, rfl⟩; rw [← hq9] at own9 at9 ⊢; have C3 := Lib.hid (C2.out.below ((Below.refl w2.heap.size w2).alloc (Nat.le_refl _) (.cells #[.int .i64 tl, .int .i64 ct, .int .i64 ck, .bool cg, .string cv] 71))); have HX9 := Lib.hid (C3.out.bx.grown gr9 (fun k hk e => by have := O2.out.row_ge hk; omega)); obtain ⟨y0, y1, y2, yz⟩ := HX9.out.c3; have O9 := Lib.hid own9; have G9 := Lib.hid gr9; have AT9 := Lib.hid at9; clear own9 gr9 at9 hq9)
              | fail)
            have C9 := Lib.hid (C3.out.stored H1.out H2.out H3.out (fun e => O2.out.row_ge e) (fun r h => (HRU.out r h).1) G9.out 1 (by simp) (.slice A9 q9 c9) rfl)
            go_roundw
            case rel => exact ⟨q + 1, _, .slice A9 q9 c9, by go_num, by omega, C9.out, by rw [HCX.out]; exact O9.out.kept (grown_setB w9 ⟨XB, 1, none⟩ (.slice A9 q9 c9)) (fun k hk => ⟨fun e => (by have := O9.out.row_ge e; injection hk with hk; dsimp only at hk; omega), fun h => h⟩), ((((NU.out.below B2.out).alloc _).kept G9.out (fun k hk => ⟨fun e => (HRU.out k hk).2 e, fun h => h⟩))).kept (grown_setB w9 ⟨XB, 1, none⟩ (.slice A9 q9 c9)) (fun k hk => ⟨fun e => (by have := NU.out.row_ge e; injection hk with hk; dsimp only at hk; omega), fun h => h⟩), (fun r hr => ⟨row_new AT9.out G9.out (fun r h => (HRU.out r h).1) O9.out hr, fun e => by
                rcases AT9.out with h | h | h
                · injection h with h4 h5 h6; subst h4 h5 h6; exact (HRU.out r hr).2 e
                · exact (HRU.out r (h ▸ hr)).2 e
                · rw [hr] at h; injection h with h; have := (NU.out.below B2.out).row_lt e; simp at h; omega⟩), fun r hr => .inl (HRV.out r hr)⟩
            case measure => simp [intOf]; omega
        · obtain rfl : n = q := by omega
          have hd : decide ((n : Int) < (n : Int)) = false := by simp
          have HOE := Lib.hid (show y.ops tl tch = O by rw [HOO.out, List.take_of_length_le (by rw [← HLC.out]; exact Nat.le_refl _)])
          obtain ⟨T, Am, cm, hm⟩ := CU.out.own
          obtain ⟨g0, g1, g2, g3, g4, gz⟩ := hm.blk.c5
          have HM := Lib.hid hm
          have HS1 := Lib.hid (show ∀ k, (Su k ∨ T k ∨ k = gm) → k < wo.drew.heap.size from fun k hk => by rcases hk with h | h | rfl; exact CU.out.hS k h; exact hm.hT k h; exact hm.blk.lt)
          have HWN := Lib.hid (show WinOwn wo.drew (fun k => Su k ∨ T k ∨ k = gm) g y.win from hm.win.drew)
          have HCD := Lib.hid (show IsSl chgRep wo.drew S A n tch from (HC.out.rest CU.out.rest (fun _ h => h)).keep (fun _ _ => rfl))
          have HSU := Lib.hid (show ∀ k, S k → (Su k ∨ T k ∨ k = gm) from fun k hk => .inl (CU.out.sub k hk))
          have hrl : y.win.rows.length ≤ 100000 := by have := HYF.out.win.rows; have := HYF.out.win.n2; omega
          clear hlt hm
          go_wp2_with fail
          go_region_held3 (fun w' => w'.cell? ⟨gm, 0, none⟩ = some (.pointer (some ⟨g, 0, none⟩)) ∧ w'.cell? ⟨TB, 2, none⟩ = some (.slice A n c)) (first | exact ⟨g0, t2⟩ | exact ⟨(R8.out.cell (p := ⟨gm, 0, none⟩) (.inr (.inr rfl))).trans g0, (R8.out.cell (p := ⟨TB, 2, none⟩) (.inl CU.out.stb)).trans t2⟩ | fail)
            (first
              | (go_at_call 134; (with_reducible refine (winsee_any g (fun k => Su k ∨ T k ∨ k = gm) y.win A n c tch wo.drew HS1.out HWN.out S HSU.out HCD.out hrl (by omega)).mono ?_); rintro e w8 ⟨rfl, o8, r8⟩; have O8 := Lib.hid o8; have R8 := Lib.hid r8; clear o8 r8)
              | fail)
          have BT8 := Lib.hid (CU.out.bt.drew.rest R8.out (.inl CU.out.stb))
          have BR8 := Lib.hid (CU.out.br.drew.rest R8.out (.inl CU.out.srb))
          have BX8 := Lib.hid (CU.out.bx.drew.rest R8.out (.inl CU.out.sxb))
          clear t0 t1 t2 t3 t4 tz x0 x1 x2 xz g0 g1 g2 g3 g4 gz
          obtain ⟨x0, x1, x2, xz⟩ := BX8.out.c3
          obtain ⟨r0, r1, r2, rz⟩ := BR8.out.c3
          go_wp2
          obtain ⟨W9, hW9⟩ : ∃ W9, W9 = (((w8.setCell ⟨RB, 0, none⟩ (.int .i64 tl)).setCell ⟨RB, 1, none⟩ (.slice A8 m8 c8)).setCell ⟨RB, 2, none⟩ (.slice A5 m5 c5)) := ⟨_, rfl⟩
          have BR9 := Lib.hid (show Blk W9 RB [.int .i64 tl, .slice A8 m8 c8, .slice A5 m5 c5] by rw [hW9]; exact ((BR8.out.put (j := 0) (by simp) _ rfl).put (j := 1) (by simp) _ rfl).put (j := 2) (by simp) _ rfl)
          have R8' := Lib.hid (show Rest (fun k => Su k ∨ T k ∨ k = gm) wo w8 from ⟨R8.out.os, R8.out.tape, R8.out.output, R8.out.size, R8.out.block⟩)
          have hRX : RB < XB + 1 := by have := H2.out; have := H3.out; omega
          have hWX : w.heap.size ≤ XB + 1 := by have := H3.out; omega
          have SO := (show Own oprRep W9 (XB + 1) (fun _ => False) 71 (.slice A8 m8 c8) O by rw [hW9]; exact (OU.out.rest R8'.out (fun r h => .inl (HRU.out r h).1)).kept3 hRX _ _ _).slB hWX
          have SN := (show Own noteRep W9 (XB + 1) (fun _ => False) 91 (.slice A5 m5 c5) N by rw [hW9]; exact (NU.out.rest R8'.out (fun r h => .inl (HRV.out r h))).kept3 hRX _ _ _).slB hWX
          have SM := (show MuxOwn W9 S gm g (y.setWin (y.win.see tch)) by rw [hW9]; exact ((((show MuxOwn w8 Su gm g (y.setWin (y.win.see tch)) from ⟨T, Am, cm, HM.out.newWin O8.out R8'.out⟩).set CU.out.srb 0 _).set CU.out.srb 1 _).set CU.out.srb 2 _).sets (fun k hk => .inl (CU.out.sub k hk)))
          have nSR : ¬ S RB := fun hs => by have := HS.out RB hs; have := H2.out; omega
          have SR := (show Rest S w W9 by rw [hW9]; exact (((CU.out.rest.trans (R8'.out.less HSU.out)).set nSR 0 _).set nSR 1 _).set nSR 2 _)
          rw [← hW9]
          clear hW9 r0 r1 r2 rz
          obtain ⟨r0, r1, r2, rz⟩ := BR9.out.c3
          refine bodyPost_ret (by simp [results, Try.results78, go_sem, r0, r1, r2]; try rfl) rfl ?_
          unfold ItmPost Mx.cliI Mx.cliM
          dsimp only
          rw [HYE.out]
          dsimp only
          rw [HOE.out]
          exact ⟨A8, m8, c8, A5, m5, c5, rfl, SO.1, SN.1, SM, SR⟩
end Go.Proofs.Ythhpddiicnjmmaa
