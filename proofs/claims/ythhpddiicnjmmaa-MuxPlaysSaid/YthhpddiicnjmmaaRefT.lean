/- Contract of the reference's mux: Take. -/
import Derived.Test.YthhpddiicnjmmaaRefO
import Derived.Test.YthhpddiicnjmmaaMuxD
import Derived.Test.YthhpddiicnjmmaaRefWB
set_option linter.unusedVariables false
set_option linter.unusedSimpArgs false
set_option maxRecDepth 100000
namespace Go.Proofs.Ythhpddiicnjmmaa
open Go.RowKit

/-- What the reference's Take leaves. -/
def RTakePost (w : World) (T0 : Nat → Prop) (gx gw : Nat) (x : Mx) (t : Txn) (e : Ending) (w' : World) : Prop :=
  ∃ A n c A2 n2 c2, e = .returned (.tuple #[.agg #[.int .i64 (x.takeI t).lsn, .slice A n c, .slice A2 n2 c2], .int .i64 (x.takeE t)]) ∧ IsSl oprRep w' (fun k => w.heap.size ≤ k ∧ k < w'.heap.size) A n (x.takeI t).ops ∧ IsSl noteRep w' (fun k => w.heap.size ≤ k ∧ k < w'.heap.size) A2 n2 (x.takeI t).notes ∧ RefMx w' (fun k => T0 k ∨ (w.heap.size ≤ k ∧ k < w'.heap.size)) gx gw (x.takeM t) ∧ Rest (RS w gx gw) w w'

section
variable {w w' w3 w4 : World} {B : Nat} {T T0 S : Nat → Prop} {gx gw : Nat} {x y : Mx}
theorem RefMx.own (h : RefMx w T0 gx gw x) (hb : Below w.heap.size w w') : RefOwn w' w.heap.size T0 (fun k => w.heap.size ≤ k ∧ k < w'.heap.size) gx gw x := by
  obtain ⟨A, c, h⟩ := h
  have hgx := h.blk.lt
  have hgw := h.win.lt
  exact ⟨T0, A, c, h.below hb, fun k hk => .inl hk, fun k hk hs => by have := h.hT k hk; omega, fun hs => by omega, fun hs => by omega⟩
theorem RefMx.parts (h : RefMx w T0 gx gw x) : gx < w.heap.size ∧ gw < w.heap.size ∧ (∀ k, T0 k → k < w.heap.size) ∧ ¬ T0 gx ∧ ¬ T0 gw ∧ gx ≠ gw := by
  obtain ⟨A, c, h⟩ := h
  exact ⟨h.blk.lt, h.win.lt, h.hT, h.nT, by obtain ⟨_, _, hw⟩ := h.win; exact hw.ng, h.ne⟩
theorem RefMxAt.setAt {A : Option Addr} {c : Nat} (h : RefMxAt w T gx gw x A c) (n : Int) : RefMxAt (w.setCell ⟨gx, 2, none⟩ (.int .i64 n)) T gx gw (x.setAt n) A c :=
  ⟨h.blk.put (j := 2) (by simp) _ rfl, h.reqs.grownT (grown_setB w ⟨gx, 2, none⟩ _) h.hT (fun k hk hT => h.nT (by injection hk with hk; dsimp only at hk; rw [hk]; exact hT)), h.win.grown (grown_setB w ⟨gx, 2, none⟩ _) (fun k hk => by injection hk with hk; dsimp only at hk; subst hk; exact ⟨h.nT, h.ne⟩), fun k hk => by simp; exact h.hT k hk, h.nT, h.ne⟩
theorem RefOwn.ofMx (h : RefMx w4 (fun k => T k ∨ (w3.heap.size ≤ k ∧ k < w4.heap.size)) gx gw y) (h1 : ∀ k, T k → T0 k ∨ B ≤ k) (h2 : ∀ k, T k → ¬ S k) (h3 : ¬ S gx) (h4 : ¬ S gw) (hB : B ≤ w3.heap.size) (hS : ∀ k, S k → k < w3.heap.size) : RefOwn w4 B T0 S gx gw y := by
  obtain ⟨A, c, h⟩ := h
  exact ⟨_, A, c, h, fun k hk => hk.elim (h1 k) (fun e => .inr (Nat.le_trans hB e.1)), fun k hk hs => hk.elim (fun ht => h2 k ht hs) (fun e => by have := hS k hs; omega), h3, h4⟩
theorem RefMxAt.winTo {A : Option Addr} {c : Nat} {z : Win} (h : RefMxAt w T gx gw x A c) (r : Rest (fun k => k < w.heap.size ∧ k ≠ gw) w w') (o : RefIn w' T gw z) : RefMxAt w' T gx gw (x.setWin z) A c := by
  have hng : ¬ T gw := by obtain ⟨_, _, hw⟩ := h.win; exact hw.ng
  exact ⟨h.blk.rest r ⟨h.blk.lt, h.ne⟩, h.reqs.rest r (fun k hk => ⟨h.hT k hk, fun e => hng (e ▸ hk)⟩), o, fun k hk => Nat.lt_of_lt_of_le (h.hT k hk) r.size, h.nT, h.ne⟩
end

/-- Behind the window's High: the item lies in block XB. -/
structure RHi (W w3 : World) (T : Nat → Prop) (gw XB : Nat) (z : Win) (l : Int) (A5 : Option Addr) (n5 c5 : Nat) (A6 : Option Addr) (n6 c6 : Nat) (ops : List Opr) (notes : List Note) : Prop where
  bx : Blk w3 XB [.int .i64 l, .slice A5 n5 c5, .slice A6 n6 c6]
  win : RefIn w3 T gw z
  rest : Rest (fun k => k < W.heap.size ∧ k ≠ gw) W w3
  ge : W.heap.size ≤ XB
  s5 : IsSl oprRep w3 (fun k => (W.heap.size ≤ k ∧ k < w3.heap.size) ∧ k ≠ XB) A5 n5 ops
  s6 : IsSl noteRep w3 (fun k => (W.heap.size ≤ k ∧ k < w3.heap.size) ∧ k ≠ XB) A6 n6 notes
theorem rhi_A {W w2 w3 : World} {T : Nat → Prop} {gw XB : Nat} {z : Win} {l : Int} {A5 : Option Addr} {n5 c5 : Nat} {A6 : Option Addr} {n6 c6 : Nat} {ops : List Opr} {notes : List Note} {t : TypeId} (hXB : XB = w2.heap.size) (hw3 : w3 = w2.alloc (.cells #[.int .i64 l, .slice A5 n5 c5, .slice A6 n6 c6] t)) (o : RefIn w2 T gw z) (r : W.drew.grownBy w2 (some gw))
    (s5 : IsSl oprRep w2 (fun k => W.drew.heap.size ≤ k ∧ k < w2.heap.size) A5 n5 ops) (s6 : IsSl noteRep w2 (fun k => W.drew.heap.size ≤ k ∧ k < w2.heap.size) A6 n6 notes) : RHi W w3 T gw XB z l A5 n5 c5 A6 n6 c6 ops notes := by
  have hb : Below w2.heap.size w2 w3 := by rw [hw3]; exact (Below.refl _ _).alloc (Nat.le_refl _) _
  have hs : w3.heap.size = w2.heap.size + 1 := by rw [hw3]; simp
  have h1 : W.heap.size ≤ w2.heap.size := r.size
  have r' : Rest (fun k => k < W.heap.size ∧ k ≠ gw) W w2 := ⟨r.os, r.tape, r.output, r.size, fun k hk => r.block k hk.1 (fun e => hk.2 (by injection e))⟩
  refine ⟨by rw [hw3, hXB]; exact Blk.new rfl rfl, o.below hb, r'.below (fun k hk => Nat.lt_of_lt_of_le hk.1 h1) hb, by rw [hXB]; exact h1, ?_, ?_⟩
  · exact (s5.keep (fun p hp => hb.cell hp.2)).weak (fun k hk => ⟨⟨hk.1, by omega⟩, by omega⟩)
  · exact (s6.keep (fun p hp => hb.cell hp.2)).weak (fun k hk => ⟨⟨hk.1, by omega⟩, by omega⟩)
theorem rhi_B {W V w2 w3 : World} {T : Nat → Prop} {gw XB : Nat} {z : Win} {l : Int} {A5 : Option Addr} {n5 c5 : Nat} {A6 : Option Addr} {n6 c6 : Nat} {ops : List Opr} {notes : List Note} {o0 : Obj} (hV : V = (W.alloc o0).drew) (hXB : XB = W.heap.size) (hw3 : w3 = ((w2.setCell ⟨XB, 0, none⟩ (.int .i64 l)).setCell ⟨XB, 1, none⟩ (.slice A5 n5 c5)).setCell ⟨XB, 2, none⟩ (.slice A6 n6 c6)) (hT : ∀ k, T k → k < W.heap.size) (hgw : gw < W.heap.size) (o : RefIn w2 T gw z) (r : V.grownBy w2 (some gw)) (hx : Blk w2 XB [.int .i64 0, .slice none 0 0, .slice none 0 0])
    (s5 : IsSl oprRep w2 (fun k => V.heap.size ≤ k ∧ k < w2.heap.size) A5 n5 ops) (s6 : IsSl noteRep w2 (fun k => V.heap.size ≤ k ∧ k < w2.heap.size) A6 n6 notes) : RHi W w3 T gw XB z l A5 n5 c5 A6 n6 c6 ops notes := by
  have hVs : V.heap.size = W.heap.size + 1 := by rw [hV]; simp
  have hb : Below W.heap.size W V := by rw [hV]; exact below_drewN ((Below.refl _ _).alloc (Nat.le_refl _) _) 1
  have hs : w3.heap.size = w2.heap.size := by rw [hw3]; simp
  have nX : ¬ (XB < W.heap.size ∧ XB ≠ gw) := fun h => by omega
  have r' : Rest (fun k => k < W.heap.size ∧ k ≠ gw) W w2 := ⟨r.os.trans hb.os, r.tape.trans hb.tape, r.output.trans hb.output, Nat.le_trans hb.size r.size, fun k hk => (r.block k (Nat.lt_of_lt_of_le hk.1 hb.size) (fun e => hk.2 (by injection e))).trans (hb.block k hk.1)⟩
  have g3 : ∀ p : Addr, p.block ≠ XB → w3.cell? p = w2.cell? p := fun p hp => by rw [hw3]; exact cell_set3 hp _ _ _
  have hr : ∀ k, some (⟨XB, 0, none⟩ : Addr).block = some k → ¬ T k ∧ k ≠ gw := fun k hk => by
    injection hk with hk
    dsimp only at hk
    subst hk
    exact ⟨fun ht => by have := hT _ ht; omega, by omega⟩
  refine ⟨by rw [hw3]; exact ((hx.put (j := 0) (by simp) _ rfl).put (j := 1) (by simp) _ rfl).put (j := 2) (by simp) _ rfl, ?_, by rw [hw3]; exact ((r'.set nX _ _).set nX _ _).set nX _ _, by omega, ?_, ?_⟩
  · rw [hw3]
    exact ((o.grown (grown_setB _ ⟨XB, 0, none⟩ _) hr).grown (grown_setB _ ⟨XB, 1, none⟩ _) hr).grown (grown_setB _ ⟨XB, 2, none⟩ _) hr
  · exact (s5.keep (fun p hp => g3 p (by have := hp.1; omega))).weak (fun k hk => ⟨⟨by omega, by omega⟩, by omega⟩)
  · exact (s6.keep (fun p hp => g3 p (by have := hp.1; omega))).weak (fun k hk => ⟨⟨by omega, by omega⟩, by omega⟩)

set_option maxHeartbeats 16000000 in
theorem refTake_any (T0 : Nat → Prop) (gx gw : Nat) (x : Mx) (w : World) (h : RefMx w T0 gx gw x) (hf : x.Fine) (t : Txn) (U : Nat → Prop) (hU : ∀ k, U k → RS w gx gw k) (A : Option Addr) (n c : Nat) (A2 : Option Addr) (n2 c2 : Nat) (ht : IsSl chgRep w U A n t.changes) (hs : IsSl strRep w U A2 n2 t.signals) :
    Calls Try.prog 47 #[.pointer (some ⟨gx, 0, none⟩), txnV t A n c A2 n2 c2] w (RTakePost w T0 gx gw x t) := by
  unfold txnV
  have HO := Lib.hid h
  have HF := Lib.hid hf
  have HU := Lib.hid hU
  have HLC := Lib.hid ht.len
  have HLS := Lib.hid hs.len
  obtain ⟨hgx, hgw, hTw, hn1, hn2, hne⟩ := h.parts
  obtain ⟨tl, tk, tch, tsg, tm⟩ := t
  dsimp only at HLC HLS ht hs ⊢
  obtain ⟨TB, hTB⟩ : ∃ TB, TB = w.heap.size := ⟨_, rfl⟩
  obtain ⟨RB, hRB⟩ : ∃ RB, RB = w.heap.size + 1 := ⟨_, rfl⟩
  obtain ⟨W, hW⟩ : ∃ W, W = (w.alloc (.cells #[.int .i64 tl, .int .i64 tk, .slice A n c, .slice A2 n2 c2, .int .i64 tm] 68)).alloc (.cells #[.int .i64 0, .slice none 0 0, .slice none 0 0] 62) := ⟨_, rfl⟩
  have hb : Below w.heap.size w W := by rw [hW]; exact ((Below.refl _ _).alloc (Nat.le_refl _) _).alloc (by simp) _
  have hWs : W.heap.size = w.heap.size + 2 := by rw [hW]; simp
  have BT := Lib.hid (show Blk W TB [.int .i64 tl, .int .i64 tk, .slice A n c, .slice A2 n2 c2, .int .i64 tm] by rw [hW, hTB]; exact (Blk.new rfl rfl).alloc _)
  have BR := Lib.hid (show Blk W RB [.int .i64 0, .slice none 0 0, .slice none 0 0] by rw [hW, hRB]; exact Blk.new rfl (by simp))
  obtain ⟨S', hS'⟩ : ∃ S' : Nat → Prop, S' = fun k => w.heap.size ≤ k ∧ k < W.heap.size := ⟨_, rfl⟩
  have HST := Lib.hid (show S' TB by rw [hS']; exact ⟨by omega, by omega⟩)
  have HSR := Lib.hid (show S' RB by rw [hS']; exact ⟨by omega, by omega⟩)
  have HSL := Lib.hid (show ∀ k, S' k → w.heap.size ≤ k ∧ k < W.heap.size by rw [hS']; exact fun k hk => hk)
  have hM : RefOwn W w.heap.size T0 S' gx gw x := by rw [hS']; exact h.own hb
  obtain ⟨T, Am, cm, hm, hi1, hi2, hi3, hi4⟩ := hM
  have HM := Lib.hid hm
  have I1 := Lib.hid hi1
  have I2 := Lib.hid hi2
  have I3 := Lib.hid hi3
  have I4 := Lib.hid hi4
  have HW := Lib.hid hW
  have H1 := Lib.hid hTB
  have H2 := Lib.hid hRB
  have HB := Lib.hid hb
  have HC := Lib.hid (show IsSl chgRep W U A n tch from ht.keep (fun p hp => hb.cell (hU _ hp).1))
  have HG := Lib.hid (show IsSl strRep W U A2 n2 tsg from hs.keep (fun p hp => hb.cell (hU _ hp).1))
  have HUL := Lib.hid (show ∀ k, U k → k < W.heap.size from fun k hk => by have := (hU k hk).1; omega)
  have hRT : RB ≠ TB := by omega
  have nRg : RB ≠ gx := by omega
  have nTg : TB ≠ gx := by omega
  have nRw : RB ≠ gw := by omega
  have nTw : TB ≠ gw := by omega
  have nRg' : (RB = gx) = False := by simp; exact nRg
  have ngR' : (gx = RB) = False := by simp; exact fun e => nRg e.symm
  have nTg' : (TB = gx) = False := by simp; exact nTg
  have ngT' : (gx = TB) = False := by simp; exact fun e => nTg e.symm
  have nTR' : (TB = RB) = False := by simp; exact fun e => hRT e.symm
  have nRT' : (RB = TB) = False := by simp; exact hRT
  have nSR : ¬ RS w gx gw RB := fun hs => by have := hs.1; omega
  have HWs := Lib.hid hWs
  have HN1 := Lib.hid hn1
  have HN2 := Lib.hid hn2
  have HTW := Lib.hid hTw
  have HGX := Lib.hid hgx
  have HGW := Lib.hid hgw
  have HNE := Lib.hid hne
  obtain ⟨t0, t1, t2, t3, t4, tz⟩ := BT.out.c5
  have hat : x.at_ ≤ 1099511627776 := hf.a2
  have hat0 : 0 ≤ x.at_ := hf.a1
  have hwr : IntKind.i64.wrap (x.at_ + 1) = x.at_ + 1 := IntWalk.i64_in _ (by omega)
  clear hWs hW hTB hRB hb hS' h hm hf ht hs hU hi1 hi2 hi3 hi4 hn1 hn2 hTw hgx hgw hne

  cases hmay : mayTxn ⟨tl, tk, tch, tsg, tm⟩ with
  | false =>
    have HMAY := Lib.hid hmay
    have HH := Lib.hid (take_no (x := x) hmay)
    clear hmay
    go_enter Try.func47, Try.ntmps47
    go_wp2_with (first
      | (go_at_call 105; rw [← HW.out, ← H2.out, ← H1.out]; (with_reducible refine (txnRefMay_any ⟨tl, tk, tch, tsg, tm⟩ A n c A2 n2 c2 W (HC.out.weak HUL.out) (HG.out.weak HUL.out)).mono ?_); rintro e w1 ⟨rfl, bel1⟩; rw [HMAY.out]; have B1 := Lib.hid bel1; have M1 := Lib.hid (HM.out.below bel1); have BT1 := Lib.hid (BT.out.after bel1); have BR1 := Lib.hid (BR.out.after bel1); obtain ⟨t0, t1, t2, t3, t4, tz⟩ := BT1.out.c5; obtain ⟨r0, r1, r2, rz⟩ := BR1.out.c3; obtain ⟨g0, g1, g2, g3, g4, gz⟩ := M1.out.blk.c5; clear bel1)
      | fail)
    obtain ⟨W9, hW9⟩ : ∃ W9, W9 = (((w1.setCell ⟨RB, 0, none⟩ (.int .i64 0)).setCell ⟨RB, 1, none⟩ (.slice none 0 0)).setCell ⟨RB, 2, none⟩ (.slice none 0 0)) := ⟨_, rfl⟩
    have BR9 := Lib.hid (show Blk W9 RB [.int .i64 0, .slice none 0 0, .slice none 0 0] by rw [hW9]; exact ((BR1.out.put (j := 0) (by simp) _ rfl).put (j := 1) (by simp) _ rfl).put (j := 2) (by simp) _ rfl)
    have HRE := Lib.hid (show Rest (RS w gx gw) w w1 from (Rest.refl (RS w gx gw) w).below (fun k hk => hk.1) (HB.out.trans (B1.out.mono HB.out.size)))
    have hsz9 : w.heap.size ≤ W9.heap.size := by rw [hW9]; simp; exact HRE.out.size
    have SM := (show RefMx W9 (fun k => T0 k ∨ (w.heap.size ≤ k ∧ k < W9.heap.size)) gx gw x from (show RefOwn W9 w.heap.size T0 S' gx gw x by rw [hW9]; exact ((((show RefOwn w1 w.heap.size T0 S' gx gw x from ⟨T, Am, cm, M1.out, I1.out, I2.out, I3.out, I4.out⟩).set HSR.out 0 _).set HSR.out 1 _).set HSR.out 2 _)).done (fun k hk => Nat.lt_of_lt_of_le (HTW.out k hk) hsz9) HN1.out HN2.out HGX.out HGW.out)
    have SR := (show Rest (RS w gx gw) w W9 by rw [hW9]; exact ((HRE.out.set nSR 0 _).set nSR 1 _).set nSR 2 _)
    rw [← hW9]
    clear hW9 r0 r1 r2 rz
    obtain ⟨r0, r1, r2, rz⟩ := BR9.out.c3
    refine bodyPost_ret (by simp [results, Try.results47, go_sem, r0, r1, r2]; try rfl) rfl ?_
    unfold RTakePost
    rw [HH.out.1, HH.out.2.1, HH.out.2.2]
    exact ⟨none, 0, 0, none, 0, 0, rfl, IsSl.nil, IsSl.nil, SM, SR⟩
  | true =>
    have HMAY := Lib.hid hmay
    have HP := Lib.hid (mayTxn_lsn hmay)
    dsimp only at HP
    have hl1 : 1 ≤ tl := HP.out.1
    have hl2 : tl ≤ 1099511627776 := HP.out.2.1
    by_cases hlsn : tl = x.at_ + 1
    case neg =>
      have hnq : (tl != x.at_ + 1) = true := by simpa using hlsn
      have HH := Lib.hid (take_bad (x := x) hmay (by unfold Mx.bad; rw [decide_eq_false hlsn]; rfl))
      clear hmay hlsn
      go_enter Try.func47, Try.ntmps47
      go_wp2_with (first
        | (go_at_call 105; rw [← HW.out, ← H2.out, ← H1.out]; (with_reducible refine (txnRefMay_any ⟨tl, tk, tch, tsg, tm⟩ A n c A2 n2 c2 W (HC.out.weak HUL.out) (HG.out.weak HUL.out)).mono ?_); rintro e w1 ⟨rfl, bel1⟩; rw [HMAY.out]; have B1 := Lib.hid bel1; have M1 := Lib.hid (HM.out.below bel1); have BT1 := Lib.hid (BT.out.after bel1); have BR1 := Lib.hid (BR.out.after bel1); obtain ⟨t0, t1, t2, t3, t4, tz⟩ := BT1.out.c5; obtain ⟨r0, r1, r2, rz⟩ := BR1.out.c3; obtain ⟨g0, g1, g2, g3, g4, gz⟩ := M1.out.blk.c5; clear bel1)
        | fail)
      go_quiet (fail)
      go_wp2
      obtain ⟨W9, hW9⟩ : ∃ W9, W9 = ((((w1.drewN nq).setCell ⟨RB, 0, none⟩ (.int .i64 0)).setCell ⟨RB, 1, none⟩ (.slice none 0 0)).setCell ⟨RB, 2, none⟩ (.slice none 0 0)) := ⟨_, rfl⟩
      have BR9 := Lib.hid (show Blk W9 RB [.int .i64 0, .slice none 0 0, .slice none 0 0] by rw [hW9]; exact (((BR1.out.drewN nq).put (j := 0) (by simp) _ rfl).put (j := 1) (by simp) _ rfl).put (j := 2) (by simp) _ rfl)
      have HRE := Lib.hid (show Rest (RS w gx gw) w (w1.drewN nq) from (Rest.refl (RS w gx gw) w).below (fun k hk => hk.1) (below_drewN (HB.out.trans (B1.out.mono HB.out.size)) nq))
      have hsz9 : w.heap.size ≤ W9.heap.size := by rw [hW9]; simp; exact HRE.out.size
      have SM := (show RefMx W9 (fun k => T0 k ∨ (w.heap.size ≤ k ∧ k < W9.heap.size)) gx gw x from (show RefOwn W9 w.heap.size T0 S' gx gw x by rw [hW9]; exact ((((show RefOwn (w1.drewN nq) w.heap.size T0 S' gx gw x from ⟨T, Am, cm, M1.out.below (below_drewN (Below.refl _ _) nq), I1.out, I2.out, I3.out, I4.out⟩).set HSR.out 0 _).set HSR.out 1 _).set HSR.out 2 _)).done (fun k hk => Nat.lt_of_lt_of_le (HTW.out k hk) hsz9) HN1.out HN2.out HGX.out HGW.out)
      have SR := (show Rest (RS w gx gw) w W9 by rw [hW9]; exact ((HRE.out.set nSR 0 _).set nSR 1 _).set nSR 2 _)
      rw [← hW9]
      clear hW9 r0 r1 r2 rz
      obtain ⟨r0, r1, r2, rz⟩ := BR9.out.c3
      refine bodyPost_ret (by simp [results, Try.results47, go_sem, r0, r1, r2]; try rfl) rfl ?_
      unfold RTakePost
      rw [HH.out.1, HH.out.2.1, HH.out.2.2]
      exact ⟨none, 0, 0, none, 0, 0, rfl, IsSl.nil, IsSl.nil, SM, SR⟩
    case pos =>
      have hnq : (tl != x.at_ + 1) = false := by simpa using hlsn
      cases hwt : x.win.waits tk tm with
      | true =>
        have HH := Lib.hid (take_bad (x := x) hmay (by unfold Mx.bad; dsimp only; rw [hwt, Bool.or_true]))
        have HWT := Lib.hid hwt
        clear hmay hlsn hwt
        go_enter Try.func47, Try.ntmps47
        go_wp2_with (first
          | (go_at_call 105; rw [← HW.out, ← H2.out, ← H1.out]; (with_reducible refine (txnRefMay_any ⟨tl, tk, tch, tsg, tm⟩ A n c A2 n2 c2 W (HC.out.weak HUL.out) (HG.out.weak HUL.out)).mono ?_); rintro e w1 ⟨rfl, bel1⟩; rw [HMAY.out]; have B1 := Lib.hid bel1; have M1 := Lib.hid (HM.out.below bel1); have BT1 := Lib.hid (BT.out.after bel1); have BR1 := Lib.hid (BR.out.after bel1); obtain ⟨t0, t1, t2, t3, t4, tz⟩ := BT1.out.c5; obtain ⟨r0, r1, r2, rz⟩ := BR1.out.c3; obtain ⟨g0, g1, g2, g3, g4, gz⟩ := M1.out.blk.c5; clear bel1)
          | fail)
        have HWN := Lib.hid (show RefIn w1.drew T gw x.win from M1.out.win.below (below_drewN (Below.refl _ _) 1))
        have hT2 : TB < w1.drew.heap.size := BT1.out.lt
        have hG2 : gx < w1.drew.heap.size := M1.out.blk.lt
        go_region_held3 (fun w' => w'.cell? ⟨TB, 0, none⟩ = some (.int .i64 tl) ∧ w'.cell? ⟨TB, 1, none⟩ = some (.int .i64 tk) ∧ w'.cell? ⟨TB, 2, none⟩ = some (.slice A n c) ∧ w'.cell? ⟨TB, 3, none⟩ = some (.slice A2 n2 c2) ∧ w'.cell? ⟨TB, 4, none⟩ = some (.int .i64 tm) ∧ w'.cell? ⟨gx, 4, none⟩ = some (.pointer (some ⟨gw, 0, none⟩)) ∧ w'.cell? ⟨gx, 2, none⟩ = some (.int .i64 x.at_)) (first | exact ⟨t0, t1, t2, t3, t4, g4, g2⟩ | exact ⟨(B2.out.cell hT2).trans t0, (B2.out.cell hT2).trans t1, (B2.out.cell hT2).trans t2, (B2.out.cell hT2).trans t3, (B2.out.cell hT2).trans t4, (B2.out.cell hG2).trans g4, (B2.out.cell hG2).trans g2⟩ | fail)
          (first
            | (go_at_call 46; (with_reducible refine (refwaits_any gw T x.win tl tk tm w1.drew HWN.out).mono ?_); rintro e w2 ⟨rfl, bel2⟩; rw [HWT.out]; have B2 := Lib.hid bel2; clear bel2)
            | fail)
        have D2 := Lib.hid (show Below w1.heap.size w1 w2 from below_of_drew B2.out)
        have BW2 := Lib.hid (HB.out.trans ((B1.out.trans (D2.out.mono B1.out.size)).mono HB.out.size))
        have BV2 := Lib.hid (show Below W.heap.size W w2 from B1.out.trans (D2.out.mono B1.out.size))
        have M2 := Lib.hid (M1.out.below D2.out)
        have BT2 := Lib.hid (BT1.out.after D2.out)
        have BR2 := Lib.hid (BR1.out.after D2.out)
        clear t0 t1 t2 t3 t4 tz r0 r1 r2 rz g0 g1 g2 g3 g4 gz
        obtain ⟨t0, t1, t2, t3, t4, tz⟩ := BT2.out.c5
        obtain ⟨r0, r1, r2, rz⟩ := BR2.out.c3
        obtain ⟨g0, g1, g2, g3, g4, gz⟩ := M2.out.blk.c5
        go_wp2
        obtain ⟨W9, hW9⟩ : ∃ W9, W9 = (((w2.setCell ⟨RB, 0, none⟩ (.int .i64 0)).setCell ⟨RB, 1, none⟩ (.slice none 0 0)).setCell ⟨RB, 2, none⟩ (.slice none 0 0)) := ⟨_, rfl⟩
        have BR9 := Lib.hid (show Blk W9 RB [.int .i64 0, .slice none 0 0, .slice none 0 0] by rw [hW9]; exact ((BR2.out.put (j := 0) (by simp) _ rfl).put (j := 1) (by simp) _ rfl).put (j := 2) (by simp) _ rfl)
        have HRE := Lib.hid (show Rest (RS w gx gw) w w2 from (Rest.refl (RS w gx gw) w).below (fun k hk => hk.1) (BW2.out))
        have hsz9 : w.heap.size ≤ W9.heap.size := by rw [hW9]; simp; exact HRE.out.size
        have SM := (show RefMx W9 (fun k => T0 k ∨ (w.heap.size ≤ k ∧ k < W9.heap.size)) gx gw x from (show RefOwn W9 w.heap.size T0 S' gx gw x by rw [hW9]; exact ((((show RefOwn w2 w.heap.size T0 S' gx gw x from ⟨T, Am, cm, M2.out, I1.out, I2.out, I3.out, I4.out⟩).set HSR.out 0 _).set HSR.out 1 _).set HSR.out 2 _)).done (fun k hk => Nat.lt_of_lt_of_le (HTW.out k hk) hsz9) HN1.out HN2.out HGX.out HGW.out)
        have SR := (show Rest (RS w gx gw) w W9 by rw [hW9]; exact ((HRE.out.set nSR 0 _).set nSR 1 _).set nSR 2 _)
        rw [← hW9]
        clear hW9 r0 r1 r2 rz
        obtain ⟨r0, r1, r2, rz⟩ := BR9.out.c3
        refine bodyPost_ret (by simp [results, Try.results47, go_sem, r0, r1, r2]; try rfl) rfl ?_
        unfold RTakePost
        rw [HH.out.1, HH.out.2.1, HH.out.2.2]
        exact ⟨none, 0, 0, none, 0, 0, rfl, IsSl.nil, IsSl.nil, SM, SR⟩
      | false =>
        have HH := Lib.hid (take_ok (x := x) hmay (by unfold Mx.bad; dsimp only; rw [hwt, decide_eq_true hlsn]; rfl))
        have HWT := Lib.hid hwt
        have HFA := Lib.hid (HF.out.setAt (n := tl) (by omega) hl2)
        have hlI : I64 tl := by unfold I64; omega
        have HKK := Lib.hid HP.out.2.2.1
        have HNN := Lib.hid HP.out.2.2.2
        clear hmay hlsn hwt
        have HK3 := HKK.out
        by_cases hk1 : tk = 1
        case pos =>
          subst hk1
          have HHE := Lib.hid HH.out.1
          have HHI := Lib.hid (show x.takeI ⟨tl, 1, tch, tsg, tm⟩ = (x.setAt tl).cliI ⟨tl, 1, tch, tsg, tm⟩ from HH.out.2.1.trans (if_pos rfl))
          have HHM := Lib.hid (show x.takeM ⟨tl, 1, tch, tsg, tm⟩ = (x.setAt tl).cliM ⟨tl, 1, tch, tsg, tm⟩ from HH.out.2.2.trans (if_pos rfl))
          clear HH
          have hnn : n ≤ 1000 ∧ n2 ≤ 1000 := by have h1 := HNN.out rfl; have h2 := HLC.out; have h3 := HLS.out; omega
          have HNM := Lib.hid hnn
          clear HK3 hnn
          go_enter Try.func47, Try.ntmps47
          go_wp2_with (first
            | (go_at_call 105; rw [← HW.out, ← H2.out, ← H1.out]; (with_reducible refine (txnRefMay_any ⟨tl, 1, tch, tsg, tm⟩ A n c A2 n2 c2 W (HC.out.weak HUL.out) (HG.out.weak HUL.out)).mono ?_); rintro e w1 ⟨rfl, bel1⟩; rw [HMAY.out]; have B1 := Lib.hid bel1; have M1 := Lib.hid (HM.out.below bel1); have BT1 := Lib.hid (BT.out.after bel1); have BR1 := Lib.hid (BR.out.after bel1); obtain ⟨t0, t1, t2, t3, t4, tz⟩ := BT1.out.c5; obtain ⟨r0, r1, r2, rz⟩ := BR1.out.c3; obtain ⟨g0, g1, g2, g3, g4, gz⟩ := M1.out.blk.c5; clear bel1)
            | fail)
          have HWN := Lib.hid (show RefIn w1.drew T gw x.win from M1.out.win.below (below_drewN (Below.refl _ _) 1))
          have hT2 : TB < w1.drew.heap.size := BT1.out.lt
          have hG2 : gx < w1.drew.heap.size := M1.out.blk.lt
          go_region_held3 (fun w' => w'.cell? ⟨TB, 0, none⟩ = some (.int .i64 tl) ∧ w'.cell? ⟨TB, 1, none⟩ = some (.int .i64 1) ∧ w'.cell? ⟨TB, 2, none⟩ = some (.slice A n c) ∧ w'.cell? ⟨TB, 3, none⟩ = some (.slice A2 n2 c2) ∧ w'.cell? ⟨TB, 4, none⟩ = some (.int .i64 tm) ∧ w'.cell? ⟨gx, 4, none⟩ = some (.pointer (some ⟨gw, 0, none⟩)) ∧ w'.cell? ⟨gx, 2, none⟩ = some (.int .i64 x.at_)) (first | exact ⟨t0, t1, t2, t3, t4, g4, g2⟩ | exact ⟨(B2.out.cell hT2).trans t0, (B2.out.cell hT2).trans t1, (B2.out.cell hT2).trans t2, (B2.out.cell hT2).trans t3, (B2.out.cell hT2).trans t4, (B2.out.cell hG2).trans g4, (B2.out.cell hG2).trans g2⟩ | fail)
            (first
              | (go_at_call 46; (with_reducible refine (refwaits_any gw T x.win tl 1 tm w1.drew HWN.out).mono ?_); rintro e w2 ⟨rfl, bel2⟩; rw [HWT.out]; have B2 := Lib.hid bel2; clear bel2)
              | fail)
          have D2 := Lib.hid (show Below w1.heap.size w1 w2 from below_of_drew B2.out)
          have BW2 := Lib.hid (HB.out.trans ((B1.out.trans (D2.out.mono B1.out.size)).mono HB.out.size))
          have BV2 := Lib.hid (show Below W.heap.size W w2 from B1.out.trans (D2.out.mono B1.out.size))
          have M2 := Lib.hid (M1.out.below D2.out)
          have BT2 := Lib.hid (BT1.out.after D2.out)
          have BR2 := Lib.hid (BR1.out.after D2.out)
          clear t0 t1 t2 t3 t4 tz r0 r1 r2 rz g0 g1 g2 g3 g4 gz
          obtain ⟨t0, t1, t2, t3, t4, tz⟩ := BT2.out.c5
          obtain ⟨r0, r1, r2, rz⟩ := BR2.out.c3
          obtain ⟨g0, g1, g2, g3, g4, gz⟩ := M2.out.blk.c5
          go_wp2_with (first
            | (go_at_call 106; obtain ⟨w3, hw3⟩ : ∃ w3, w3 = w2.setCell ⟨gx, 2, none⟩ (.int .i64 tl) := ⟨_, rfl⟩; have M3 := Lib.hid (show RefMxAt w3 T gx gw (x.setAt tl) Am cm by rw [hw3]; exact M2.out.setAt tl); have R3 := Lib.hid (show Rest (RS w gx gw) w w3 by rw [hw3]; exact ((Rest.refl (RS w gx gw) w).below (fun k hk => hk.1) BW2.out).set (fun hs => hs.2.1 rfl) 2 _); have hs3 : W.heap.size ≤ w3.heap.size := (by rw [hw3]; simp; exact BV2.out.size); have BR3 := Lib.hid (show Blk w3 RB [.int .i64 0, .slice none 0 0, .slice none 0 0] by rw [hw3]; exact BR2.out.other nRg _ _); have BT3 := Lib.hid (show Blk w3 TB [.int .i64 tl, .int .i64 1, .slice A n c, .slice A2 n2 c2, .int .i64 tm] by rw [hw3]; exact BT2.out.other nTg _ _); have HU3 := Lib.hid (show ∀ k, U k → RS w3 gx gw k from fun k hk => ⟨Nat.lt_of_lt_of_le (HUL.out k hk) hs3, (HU.out k hk).2⟩); have HC3 := Lib.hid (show IsSl chgRep w3 U A n tch from HC.out.keep (fun p hp => by rw [hw3]; exact (World.cell?_setCell_other _ _ _ _ (fun e => (HU.out _ hp).2.1 (by rw [← e]))).trans (BV2.out.cell (HUL.out _ hp)))); have HG3 := Lib.hid (show IsSl strRep w3 U A2 n2 tsg from HG.out.keep (fun p hp => by rw [hw3]; exact (World.cell?_setCell_other _ _ _ _ (fun e => (HU.out _ hp).2.1 (by rw [← e]))).trans (BV2.out.cell (HUL.out _ hp)))); rw [← hw3]; clear hw3; have KC := refClient_any T gx gw (x.setAt tl) w3 ⟨Am, cm, M3.out⟩ HFA.out ⟨tl, 1, tch, tsg, tm⟩ U HU3.out A n c A2 n2 c2 HC3.out HG3.out HNM.out.1 HNM.out.2 hlI; unfold txnV at KC; (with_reducible refine KC.mono ?_); clear KC; rintro e w4 ⟨A5, n5, c5, A6, n6, c6, rfl, s5, s6, m4, rest4⟩; have S5 := Lib.hid s5; have S6 := Lib.hid s6; have M4 := Lib.hid m4; have R4 := Lib.hid rest4; have BR4 := Lib.hid (BR3.out.rest rest4 ⟨BR3.out.lt, nRg, nRw⟩); obtain ⟨r0, r1, r2, rz⟩ := BR4.out.c3; clear s5 s6 m4 rest4)
            | fail)
          have hwW := HB.out.size
          have hRW : RB < w3.heap.size := BR3.out.lt
          obtain ⟨W9, hW9⟩ : ∃ W9, W9 = (((w4.setCell ⟨RB, 0, none⟩ (.int .i64 ((x.setAt tl).cliI ⟨tl, 1, tch, tsg, tm⟩).lsn)).setCell ⟨RB, 1, none⟩ (.slice A5 n5 c5)).setCell ⟨RB, 2, none⟩ (.slice A6 n6 c6)) := ⟨_, rfl⟩
          have BR9 := Lib.hid (show Blk W9 RB [.int .i64 ((x.setAt tl).cliI ⟨tl, 1, tch, tsg, tm⟩).lsn, .slice A5 n5 c5, .slice A6 n6 c6] by rw [hW9]; exact ((BR4.out.put (j := 0) (by simp) _ rfl).put (j := 1) (by simp) _ rfl).put (j := 2) (by simp) _ rfl)
          have HRE := Lib.hid (show Rest (RS w gx gw) w w4 from R3.out.trans (R4.out.less (fun k hk => ⟨Nat.lt_of_lt_of_le hk.1 R3.out.size, hk.2⟩)))
          have hsz9 : w.heap.size ≤ W9.heap.size := by rw [hW9]; simp; exact HRE.out.size
          have SO := (show IsSl oprRep W9 (fun k => w.heap.size ≤ k ∧ k < W9.heap.size) A5 n5 ((x.setAt tl).cliI ⟨tl, 1, tch, tsg, tm⟩).ops by rw [hW9]; exact S5.out.outR (Nat.le_trans hwW hs3) hRW)
          have SN := (show IsSl noteRep W9 (fun k => w.heap.size ≤ k ∧ k < W9.heap.size) A6 n6 ((x.setAt tl).cliI ⟨tl, 1, tch, tsg, tm⟩).notes by rw [hW9]; exact S6.out.outR (Nat.le_trans hwW hs3) hRW)
          have SM := (show RefMx W9 (fun k => T0 k ∨ (w.heap.size ≤ k ∧ k < W9.heap.size)) gx gw ((x.setAt tl).cliM ⟨tl, 1, tch, tsg, tm⟩) from (show RefOwn W9 w.heap.size T0 S' gx gw ((x.setAt tl).cliM ⟨tl, 1, tch, tsg, tm⟩) by rw [hW9]; exact ((((show RefOwn w4 w.heap.size T0 S' gx gw ((x.setAt tl).cliM ⟨tl, 1, tch, tsg, tm⟩) from RefOwn.ofMx M4.out I1.out I2.out I3.out I4.out (Nat.le_trans hwW hs3) (fun k hk => Nat.lt_of_lt_of_le (HSL.out k hk).2 hs3)).set HSR.out 0 _).set HSR.out 1 _).set HSR.out 2 _)).done (fun k hk => Nat.lt_of_lt_of_le (HTW.out k hk) hsz9) HN1.out HN2.out HGX.out HGW.out)
          have SR := (show Rest (RS w gx gw) w W9 by rw [hW9]; exact ((HRE.out.set nSR 0 _).set nSR 1 _).set nSR 2 _)
          rw [← hW9]
          clear hW9 r0 r1 r2 rz
          obtain ⟨r0, r1, r2, rz⟩ := BR9.out.c3
          refine bodyPost_ret (by simp [results, Try.results47, go_sem, r0, r1, r2]; try rfl) rfl ?_
          unfold RTakePost
          rw [HHE.out, HHI.out, HHM.out]
          exact ⟨_, _, _, _, _, _, rfl, SO, SN, SM, SR⟩
        case neg =>
          by_cases hk3 : tk = 3
          case pos =>
            subst hk3
            have HHE := Lib.hid HH.out.1
            have HHI := Lib.hid (show x.takeI ⟨tl, 3, tch, tsg, tm⟩ = (x.setAt tl).highI ⟨tl, 3, tch, tsg, tm⟩ from HH.out.2.1.trans ((if_neg (show ¬ (3 : Int) = 1 by decide)).trans (if_pos rfl)))
            have HHM := Lib.hid (show x.takeM ⟨tl, 3, tch, tsg, tm⟩ = (x.setAt tl).highM ⟨tl, 3, tch, tsg, tm⟩ from HH.out.2.2.trans ((if_neg (show ¬ (3 : Int) = 1 by decide)).trans (if_pos rfl)))
            clear HH
            clear HK3
            have hrl : x.win.rows.length ≤ 100000 := by have := HF.out.win.rows; have := HF.out.win.n2; omega
            have HFI := Lib.hid HF.out.win.id
            have HFT := Lib.hid HF.out.win.table
            have HFC := Lib.hid HF.out.win.cursor
            have HFM := Lib.hid (may_short HF.out.may)
            cases hok : x.win.highOk tm tl with
            | false =>
              have HOK := Lib.hid hok
              have HHI2 := Lib.hid (show x.takeI ⟨tl, 3, tch, tsg, tm⟩ = ⟨tl, [], []⟩ from HHI.out.trans (if_neg (by show ¬ (x.setAt tl).win.highOk tm tl = true; rw [show (x.setAt tl).win = x.win from rfl, hok]; simp)))
              have HHM2 := Lib.hid (show x.takeM ⟨tl, 3, tch, tsg, tm⟩ = (x.setAt tl).setWin (x.win.told tm tl) from HHM.out.trans (by unfold Mx.highM Mx.highO; dsimp only; rw [if_neg (by rw [show (x.setAt tl).win = x.win from rfl, hok]; simp)]; rfl))
              clear hok HHI HHM
              go_enter Try.func47, Try.ntmps47
              go_wp2_with (first
                | (go_at_call 105; rw [← HW.out, ← H2.out, ← H1.out]; (with_reducible refine (txnRefMay_any ⟨tl, 3, tch, tsg, tm⟩ A n c A2 n2 c2 W (HC.out.weak HUL.out) (HG.out.weak HUL.out)).mono ?_); rintro e w1 ⟨rfl, bel1⟩; rw [HMAY.out]; have B1 := Lib.hid bel1; have M1 := Lib.hid (HM.out.below bel1); have BT1 := Lib.hid (BT.out.after bel1); have BR1 := Lib.hid (BR.out.after bel1); obtain ⟨t0, t1, t2, t3, t4, tz⟩ := BT1.out.c5; obtain ⟨r0, r1, r2, rz⟩ := BR1.out.c3; obtain ⟨g0, g1, g2, g3, g4, gz⟩ := M1.out.blk.c5; clear bel1)
                | fail)
              have HWN := Lib.hid (show RefIn w1.drew T gw x.win from M1.out.win.below (below_drewN (Below.refl _ _) 1))
              have hT2 : TB < w1.drew.heap.size := BT1.out.lt
              have hG2 : gx < w1.drew.heap.size := M1.out.blk.lt
              go_region_held3 (fun w' => w'.cell? ⟨TB, 0, none⟩ = some (.int .i64 tl) ∧ w'.cell? ⟨TB, 1, none⟩ = some (.int .i64 3) ∧ w'.cell? ⟨TB, 2, none⟩ = some (.slice A n c) ∧ w'.cell? ⟨TB, 3, none⟩ = some (.slice A2 n2 c2) ∧ w'.cell? ⟨TB, 4, none⟩ = some (.int .i64 tm) ∧ w'.cell? ⟨gx, 4, none⟩ = some (.pointer (some ⟨gw, 0, none⟩)) ∧ w'.cell? ⟨gx, 2, none⟩ = some (.int .i64 x.at_)) (first | exact ⟨t0, t1, t2, t3, t4, g4, g2⟩ | exact ⟨(B2.out.cell hT2).trans t0, (B2.out.cell hT2).trans t1, (B2.out.cell hT2).trans t2, (B2.out.cell hT2).trans t3, (B2.out.cell hT2).trans t4, (B2.out.cell hG2).trans g4, (B2.out.cell hG2).trans g2⟩ | fail)
                (first
                  | (go_at_call 46; (with_reducible refine (refwaits_any gw T x.win tl 3 tm w1.drew HWN.out).mono ?_); rintro e w2 ⟨rfl, bel2⟩; rw [HWT.out]; have B2 := Lib.hid bel2; clear bel2)
                  | fail)
              have D2 := Lib.hid (show Below w1.heap.size w1 w2 from below_of_drew B2.out)
              have BW2 := Lib.hid (HB.out.trans ((B1.out.trans (D2.out.mono B1.out.size)).mono HB.out.size))
              have BV2 := Lib.hid (show Below W.heap.size W w2 from B1.out.trans (D2.out.mono B1.out.size))
              have M2 := Lib.hid (M1.out.below D2.out)
              have BT2 := Lib.hid (BT1.out.after D2.out)
              have BR2 := Lib.hid (BR1.out.after D2.out)
              clear t0 t1 t2 t3 t4 tz r0 r1 r2 rz g0 g1 g2 g3 g4 gz
              obtain ⟨t0, t1, t2, t3, t4, tz⟩ := BT2.out.c5
              obtain ⟨r0, r1, r2, rz⟩ := BR2.out.c3
              obtain ⟨g0, g1, g2, g3, g4, gz⟩ := M2.out.blk.c5
              go_wp2_with fail
              obtain ⟨w3, hw3⟩ : ∃ w3, w3 = w2.setCell ⟨gx, 2, none⟩ (.int .i64 tl) := ⟨_, rfl⟩
              have M3 := Lib.hid (show RefMxAt w3 T gx gw (x.setAt tl) Am cm by rw [hw3]; exact M2.out.setAt tl)
              have R3 := Lib.hid (show Rest (RS w gx gw) w w3 by rw [hw3]; exact ((Rest.refl (RS w gx gw) w).below (fun k hk => hk.1) BW2.out).set (fun hs => hs.2.1 rfl) 2 _)
              have hs3 : W.heap.size ≤ w3.heap.size := (by rw [hw3]; simp; exact BV2.out.size)
              have BR3 := Lib.hid (show Blk w3 RB [.int .i64 0, .slice none 0 0, .slice none 0 0] by rw [hw3]; exact BR2.out.other nRg _ _)
              have BT3 := Lib.hid (show Blk w3 TB [.int .i64 tl, .int .i64 3, .slice A n c, .slice A2 n2 c2, .int .i64 tm] by rw [hw3]; exact BT2.out.other nTg _ _)
              have HU3 := Lib.hid (show ∀ k, U k → RS w3 gx gw k from fun k hk => ⟨Nat.lt_of_lt_of_le (HUL.out k hk) hs3, (HU.out k hk).2⟩)
              have HC3 := Lib.hid (show IsSl chgRep w3 U A n tch from HC.out.keep (fun p hp => by rw [hw3]; exact (World.cell?_setCell_other _ _ _ _ (fun e => (HU.out _ hp).2.1 (by rw [← e]))).trans (BV2.out.cell (HUL.out _ hp))))
              have HG3 := Lib.hid (show IsSl strRep w3 U A2 n2 tsg from HG.out.keep (fun p hp => by rw [hw3]; exact (World.cell?_setCell_other _ _ _ _ (fun e => (HU.out _ hp).2.1 (by rw [← e]))).trans (BV2.out.cell (HUL.out _ hp))))
              rw [← hw3]
              clear hw3
              clear t0 t1 t2 t3 t4 tz r0 r1 r2 rz g0 g1 g2 g3 g4 gz
              obtain ⟨t0, t1, t2, t3, t4, tz⟩ := BT3.out.c5
              obtain ⟨g0, g1, g2, g3, g4, gz⟩ := M3.out.blk.c5
              have hgx3 : gx < w3.heap.size := M3.out.blk.lt
              have htb3 : TB < w3.heap.size := BT3.out.lt
              have hne1 : gx ≠ w3.heap.size := by omega
              have hne2 : TB ≠ w3.heap.size := by omega
              have hgw3 : gw < w3.heap.size := M3.out.win.lt
              have hne3 : gw ≠ w3.heap.size := by omega
              have hnew := HNE.out
              have HTL3 := Lib.hid M3.out.hT
              have HWN3 := Lib.hid (show RefIn w3.drew T gw x.win from M3.out.win.below (below_drewN (Below.refl _ _) 1))
              have HWV := Lib.hid (show RefIn ((w3.alloc (.cells #[.int .i64 0, .slice none 0 0, .slice none 0 0] 62)).drew) T gw x.win from M3.out.win.below (below_drewN ((Below.refl _ _).alloc (Nat.le_refl _) _) 1))
              have HK0 := Lib.hid (show w3.drew.cell? ⟨gx, 4, none⟩ = some (.pointer (some ⟨gw, 0, none⟩)) ∧ w3.drew.cell? ⟨TB, 4, none⟩ = some (.int .i64 tm) ∧ w3.drew.cell? ⟨TB, 0, none⟩ = some (.int .i64 tl) from ⟨g4, t4, t0⟩)
              have HKV := Lib.hid (show ((w3.alloc (.cells #[.int .i64 0, .slice none 0 0, .slice none 0 0] 62)).drew).cell? ⟨gx, 4, none⟩ = some (.pointer (some ⟨gw, 0, none⟩)) ∧ ((w3.alloc (.cells #[.int .i64 0, .slice none 0 0, .slice none 0 0] 62)).drew).cell? ⟨TB, 4, none⟩ = some (.int .i64 tm) ∧ ((w3.alloc (.cells #[.int .i64 0, .slice none 0 0, .slice none 0 0] 62)).drew).cell? ⟨TB, 0, none⟩ = some (.int .i64 tl) from ⟨(((Below.refl w3.heap.size w3).alloc (Nat.le_refl _) _).cell (p := ⟨gx, 4, none⟩) hgx3).trans g4, (((Below.refl w3.heap.size w3).alloc (Nat.le_refl _) _).cell (p := ⟨TB, 4, none⟩) htb3).trans t4, (((Below.refl w3.heap.size w3).alloc (Nat.le_refl _) _).cell (p := ⟨TB, 0, none⟩) htb3).trans t0⟩)
              have HXV := Lib.hid (show Blk ((w3.alloc (.cells #[.int .i64 0, .slice none 0 0, .slice none 0 0] 62)).drew) w3.heap.size [.int .i64 0, .slice none 0 0, .slice none 0 0] from (Blk.new rfl rfl).drew)
              have hvg : gx < ((w3.alloc (.cells #[.int .i64 0, .slice none 0 0, .slice none 0 0] 62)).drew).heap.size := by simp; omega
              have hvt : TB < ((w3.alloc (.cells #[.int .i64 0, .slice none 0 0, .slice none 0 0] 62)).drew).heap.size := by simp; omega
              clear hne1 hne2
              go_region_held3 (fun w' => w'.cell? ⟨gx, 4, none⟩ = some (.pointer (some ⟨gw, 0, none⟩)) ∧ w'.cell? ⟨TB, 4, none⟩ = some (.int .i64 tm) ∧ w'.cell? ⟨TB, 0, none⟩ = some (.int .i64 tl)) (first | exact HK0.out | exact HKV.out | exact HK2.out | exact HK3.out _ | exact HK4.out _ _ _ | fail)
                (first
                  | (go_at_call 108; (with_reducible refine (refhigh_any gw T x.win tm tl w3.drew HWN3.out hrl HFI.out HFT.out HFC.out).mono ?_); rintro e w4 ⟨A5, n5, c5, A6, n6, c6, rfl, s5, s6, o2, r2⟩; rw [HOK.out]; have O2 := Lib.hid o2; have R2 := Lib.hid r2; have T5 := Lib.hid s5; have T6 := Lib.hid s6; have HK2 := Lib.hid (show w4.cell? ⟨gx, 4, none⟩ = some (.pointer (some ⟨gw, 0, none⟩)) ∧ w4.cell? ⟨TB, 4, none⟩ = some (.int .i64 tm) ∧ w4.cell? ⟨TB, 0, none⟩ = some (.int .i64 tl) from ⟨(cell_grown r2 (p := ⟨gx, 4, none⟩) hgx3 (by simpa using hnew.symm)).trans HK0.out.1, (cell_grown r2 (p := ⟨TB, 4, none⟩) htb3 (by simpa using nTw.symm)).trans HK0.out.2.1, (cell_grown r2 (p := ⟨TB, 0, none⟩) htb3 (by simpa using nTw.symm)).trans HK0.out.2.2⟩); have hs4 : w3.heap.size ≤ w4.heap.size := r2.size; have HK3 := Lib.hid (show ∀ o, (w4.alloc o).cell? ⟨gx, 4, none⟩ = some (.pointer (some ⟨gw, 0, none⟩)) ∧ (w4.alloc o).cell? ⟨TB, 4, none⟩ = some (.int .i64 tm) ∧ (w4.alloc o).cell? ⟨TB, 0, none⟩ = some (.int .i64 tl) from fun o => ⟨(((Below.refl w4.heap.size w4).alloc (Nat.le_refl _) o).cell (p := ⟨gx, 4, none⟩) (Nat.lt_of_lt_of_le hgx3 hs4)).trans HK2.out.1, (((Below.refl w4.heap.size w4).alloc (Nat.le_refl _) o).cell (p := ⟨TB, 4, none⟩) (Nat.lt_of_lt_of_le htb3 hs4)).trans HK2.out.2.1, (((Below.refl w4.heap.size w4).alloc (Nat.le_refl _) o).cell (p := ⟨TB, 0, none⟩) (Nat.lt_of_lt_of_le htb3 hs4)).trans HK2.out.2.2⟩); clear s5 s6 o2 r2)
                  | (go_at_call 108; (with_reducible refine (refhigh_any gw T x.win tm tl (w3.alloc (.cells #[.int .i64 0, .slice none 0 0, .slice none 0 0] 62)).drew HWV.out hrl HFI.out HFT.out HFC.out).mono ?_); rintro e w4 ⟨A5, n5, c5, A6, n6, c6, rfl, s5, s6, o2, r2⟩; rw [HOK.out]; have O2 := Lib.hid o2; have R2 := Lib.hid r2; have T5 := Lib.hid s5; have T6 := Lib.hid s6; have HK2 := Lib.hid (show w4.cell? ⟨gx, 4, none⟩ = some (.pointer (some ⟨gw, 0, none⟩)) ∧ w4.cell? ⟨TB, 4, none⟩ = some (.int .i64 tm) ∧ w4.cell? ⟨TB, 0, none⟩ = some (.int .i64 tl) from ⟨(cell_grown r2 (p := ⟨gx, 4, none⟩) hvg (by simpa using hnew.symm)).trans HKV.out.1, (cell_grown r2 (p := ⟨TB, 4, none⟩) hvt (by simpa using nTw.symm)).trans HKV.out.2.1, (cell_grown r2 (p := ⟨TB, 0, none⟩) hvt (by simpa using nTw.symm)).trans HKV.out.2.2⟩); have HXW := Lib.hid (HXV.out.grown r2 (fun k hk e => by injection hk with hk; omega)); obtain ⟨q0, q1, q2, qz⟩ := HXW.out.c3; have HK4 := Lib.hid (show ∀ a b c, (((w4.setCell ⟨w3.heap.size, 0, none⟩ a).setCell ⟨w3.heap.size, 1, none⟩ b).setCell ⟨w3.heap.size, 2, none⟩ c).cell? ⟨gx, 4, none⟩ = some (.pointer (some ⟨gw, 0, none⟩)) ∧ (((w4.setCell ⟨w3.heap.size, 0, none⟩ a).setCell ⟨w3.heap.size, 1, none⟩ b).setCell ⟨w3.heap.size, 2, none⟩ c).cell? ⟨TB, 4, none⟩ = some (.int .i64 tm) ∧ (((w4.setCell ⟨w3.heap.size, 0, none⟩ a).setCell ⟨w3.heap.size, 1, none⟩ b).setCell ⟨w3.heap.size, 2, none⟩ c).cell? ⟨TB, 0, none⟩ = some (.int .i64 tl) from fun a b c => ⟨(cell_set3 (by show gx ≠ _; omega) a b c).trans HK2.out.1, (cell_set3 (by show TB ≠ _; omega) a b c).trans HK2.out.2.1, (cell_set3 (by show TB ≠ _; omega) a b c).trans HK2.out.2.2⟩); clear s5 s6 o2 r2)
                  | fail)
              all_goals first
                | (obtain ⟨XB, hXB⟩ : ∃ XB, XB = w4.heap.size := ⟨_, rfl⟩
                   obtain ⟨w5, hw5⟩ : ∃ w5, w5 = w4.alloc (.cells #[.int .i64 (x.win.tell tm tl).lsn, .slice A5 n5 c5, .slice A6 n6 c6] 62) := ⟨_, rfl⟩
                   have HI := Lib.hid (rhi_A (W := w3) hXB hw5 O2.out R2.out T5.out T6.out)
                   rw [← hw5, ← hXB]
                   clear hXB hw5)
                | (obtain ⟨XB, hXB⟩ : ∃ XB, XB = w3.heap.size := ⟨_, rfl⟩
                   obtain ⟨w5, hw5⟩ : ∃ w5, w5 = (((w4.setCell ⟨XB, 0, none⟩ (.int .i64 (x.win.tell tm tl).lsn)).setCell ⟨XB, 1, none⟩ (.slice A5 n5 c5)).setCell ⟨XB, 2, none⟩ (.slice A6 n6 c6)) := ⟨_, rfl⟩
                   have HI := Lib.hid (rhi_B (W := w3) (V := ((w3.alloc (.cells #[.int .i64 0, .slice none 0 0, .slice none 0 0] 62)).drew)) rfl hXB hw5 HTL3.out hgw3 O2.out R2.out (by rw [hXB]; exact HXW.out) T5.out T6.out)
                   rw [← hXB, ← hw5]
                   clear hXB hw5)
              all_goals
                have BT5 := Lib.hid (BT3.out.rest HI.out.rest ⟨BT3.out.lt, nTw⟩)
                have BR5 := Lib.hid (BR3.out.rest HI.out.rest ⟨BR3.out.lt, nRw⟩)
                have HMA := Lib.hid (M3.out.winTo (z := x.win.told tm tl) HI.out.rest HI.out.win)
                have HRS := Lib.hid (show Rest (RS w gx gw) w w5 from R3.out.trans (HI.out.rest.less (fun k hk => ⟨Nat.lt_of_lt_of_le hk.1 R3.out.size, hk.2.2⟩)))
                clear t0 t1 t2 t3 t4 tz g0 g1 g2 g3 g4 gz
                obtain ⟨t0, t1, t2, t3, t4, tz⟩ := BT5.out.c5
                obtain ⟨r0, r1, r2, rz⟩ := BR5.out.c3
                go_wp2
                obtain ⟨W9, hW9⟩ : ∃ W9, W9 = (((w5.setCell ⟨RB, 0, none⟩ (.int .i64 tl)).setCell ⟨RB, 1, none⟩ (.slice none 0 0)).setCell ⟨RB, 2, none⟩ (.slice none 0 0)) := ⟨_, rfl⟩
                have BR9 := Lib.hid (show Blk W9 RB [.int .i64 tl, .slice none 0 0, .slice none 0 0] by rw [hW9]; exact ((BR5.out.put (j := 0) (by simp) _ rfl).put (j := 1) (by simp) _ rfl).put (j := 2) (by simp) _ rfl)
                have HRE := Lib.hid (show Rest (RS w gx gw) w w5 from HRS.out)
                have hsz9 : w.heap.size ≤ W9.heap.size := by rw [hW9]; simp; exact HRE.out.size
                have SM := (show RefMx W9 (fun k => T0 k ∨ (w.heap.size ≤ k ∧ k < W9.heap.size)) gx gw ((x.setAt tl).setWin (x.win.told tm tl)) from (show RefOwn W9 w.heap.size T0 S' gx gw ((x.setAt tl).setWin (x.win.told tm tl)) by rw [hW9]; exact ((((show RefOwn w5 w.heap.size T0 S' gx gw ((x.setAt tl).setWin (x.win.told tm tl)) from ⟨T, Am, cm, HMA.out, I1.out, I2.out, I3.out, I4.out⟩).set HSR.out 0 _).set HSR.out 1 _).set HSR.out 2 _)).done (fun k hk => Nat.lt_of_lt_of_le (HTW.out k hk) hsz9) HN1.out HN2.out HGX.out HGW.out)
                have SR := (show Rest (RS w gx gw) w W9 by rw [hW9]; exact ((HRE.out.set nSR 0 _).set nSR 1 _).set nSR 2 _)
                rw [← hW9]
                clear hW9 r0 r1 r2 rz
                obtain ⟨r0, r1, r2, rz⟩ := BR9.out.c3
                refine bodyPost_ret (by simp [results, Try.results47, go_sem, r0, r1, r2]; try rfl) rfl ?_
                unfold RTakePost
                rw [HHE.out, HHI2.out, HHM2.out]
                exact ⟨none, 0, 0, none, 0, 0, rfl, IsSl.nil, IsSl.nil, SM, SR⟩
            | true =>
              have HOK := Lib.hid hok
              have HTE := Lib.hid (show x.win.tell tm tl = ⟨tl, x.win.rows.map (opOf tl x.win.table), [⟨2, x.win.id, 0, 0, 0, x.win.cursor, x.win.last⟩]⟩ from if_pos hok)
              have HTL := Lib.hid (show (x.win.tell tm tl).lsn = tl by rw [HTE.out])
              have HTN := Lib.hid (show (x.win.tell tm tl).notes = [⟨2, x.win.id, 0, 0, 0, x.win.cursor, x.win.last⟩] by rw [HTE.out])
              have HHO := Lib.hid (show (x.setAt tl).highO ⟨tl, 3, tch, tsg, tm⟩ = chunkO x.reqs x.win.id x.win.cursor x.win.last from if_pos hok)
              have HHI2 := Lib.hid (show x.takeI ⟨tl, 3, tch, tsg, tm⟩ = (match (x.setAt tl).highO ⟨tl, 3, tch, tsg, tm⟩ with | some _ => x.win.tell tm tl | none => ⟨tl, (x.win.tell tm tl).ops, []⟩) from HHI.out.trans (if_pos hok))
              have HHM2 := Lib.hid (show x.takeM ⟨tl, 3, tch, tsg, tm⟩ = (match (x.setAt tl).highO ⟨tl, 3, tch, tsg, tm⟩ with | some l => (x.setAt tl).setReqs l | none => x.setAt tl).setWin (x.win.told tm tl) from HHM.out)
              clear hok HHI HHM
              obtain ⟨o, ho⟩ : ∃ o, o = chunkO x.reqs x.win.id x.win.cursor x.win.last := ⟨_, rfl⟩
              rw [← ho] at HHO
              rw [HHO.out] at HHI2 HHM2
              have HOO := Lib.hid ho
              clear ho
              cases o with
              | none =>
                go_enter Try.func47, Try.ntmps47
                go_wp2_with (first
                  | (go_at_call 105; rw [← HW.out, ← H2.out, ← H1.out]; (with_reducible refine (txnRefMay_any ⟨tl, 3, tch, tsg, tm⟩ A n c A2 n2 c2 W (HC.out.weak HUL.out) (HG.out.weak HUL.out)).mono ?_); rintro e w1 ⟨rfl, bel1⟩; rw [HMAY.out]; have B1 := Lib.hid bel1; have M1 := Lib.hid (HM.out.below bel1); have BT1 := Lib.hid (BT.out.after bel1); have BR1 := Lib.hid (BR.out.after bel1); obtain ⟨t0, t1, t2, t3, t4, tz⟩ := BT1.out.c5; obtain ⟨r0, r1, r2, rz⟩ := BR1.out.c3; obtain ⟨g0, g1, g2, g3, g4, gz⟩ := M1.out.blk.c5; clear bel1)
                  | fail)
                have HWN := Lib.hid (show RefIn w1.drew T gw x.win from M1.out.win.below (below_drewN (Below.refl _ _) 1))
                have hT2 : TB < w1.drew.heap.size := BT1.out.lt
                have hG2 : gx < w1.drew.heap.size := M1.out.blk.lt
                go_region_held3 (fun w' => w'.cell? ⟨TB, 0, none⟩ = some (.int .i64 tl) ∧ w'.cell? ⟨TB, 1, none⟩ = some (.int .i64 3) ∧ w'.cell? ⟨TB, 2, none⟩ = some (.slice A n c) ∧ w'.cell? ⟨TB, 3, none⟩ = some (.slice A2 n2 c2) ∧ w'.cell? ⟨TB, 4, none⟩ = some (.int .i64 tm) ∧ w'.cell? ⟨gx, 4, none⟩ = some (.pointer (some ⟨gw, 0, none⟩)) ∧ w'.cell? ⟨gx, 2, none⟩ = some (.int .i64 x.at_)) (first | exact ⟨t0, t1, t2, t3, t4, g4, g2⟩ | exact ⟨(B2.out.cell hT2).trans t0, (B2.out.cell hT2).trans t1, (B2.out.cell hT2).trans t2, (B2.out.cell hT2).trans t3, (B2.out.cell hT2).trans t4, (B2.out.cell hG2).trans g4, (B2.out.cell hG2).trans g2⟩ | fail)
                  (first
                    | (go_at_call 46; (with_reducible refine (refwaits_any gw T x.win tl 3 tm w1.drew HWN.out).mono ?_); rintro e w2 ⟨rfl, bel2⟩; rw [HWT.out]; have B2 := Lib.hid bel2; clear bel2)
                    | fail)
                have D2 := Lib.hid (show Below w1.heap.size w1 w2 from below_of_drew B2.out)
                have BW2 := Lib.hid (HB.out.trans ((B1.out.trans (D2.out.mono B1.out.size)).mono HB.out.size))
                have BV2 := Lib.hid (show Below W.heap.size W w2 from B1.out.trans (D2.out.mono B1.out.size))
                have M2 := Lib.hid (M1.out.below D2.out)
                have BT2 := Lib.hid (BT1.out.after D2.out)
                have BR2 := Lib.hid (BR1.out.after D2.out)
                clear t0 t1 t2 t3 t4 tz r0 r1 r2 rz g0 g1 g2 g3 g4 gz
                obtain ⟨t0, t1, t2, t3, t4, tz⟩ := BT2.out.c5
                obtain ⟨r0, r1, r2, rz⟩ := BR2.out.c3
                obtain ⟨g0, g1, g2, g3, g4, gz⟩ := M2.out.blk.c5
                go_wp2_with fail
                obtain ⟨w3, hw3⟩ : ∃ w3, w3 = w2.setCell ⟨gx, 2, none⟩ (.int .i64 tl) := ⟨_, rfl⟩
                have M3 := Lib.hid (show RefMxAt w3 T gx gw (x.setAt tl) Am cm by rw [hw3]; exact M2.out.setAt tl)
                have R3 := Lib.hid (show Rest (RS w gx gw) w w3 by rw [hw3]; exact ((Rest.refl (RS w gx gw) w).below (fun k hk => hk.1) BW2.out).set (fun hs => hs.2.1 rfl) 2 _)
                have hs3 : W.heap.size ≤ w3.heap.size := (by rw [hw3]; simp; exact BV2.out.size)
                have BR3 := Lib.hid (show Blk w3 RB [.int .i64 0, .slice none 0 0, .slice none 0 0] by rw [hw3]; exact BR2.out.other nRg _ _)
                have BT3 := Lib.hid (show Blk w3 TB [.int .i64 tl, .int .i64 3, .slice A n c, .slice A2 n2 c2, .int .i64 tm] by rw [hw3]; exact BT2.out.other nTg _ _)
                have HU3 := Lib.hid (show ∀ k, U k → RS w3 gx gw k from fun k hk => ⟨Nat.lt_of_lt_of_le (HUL.out k hk) hs3, (HU.out k hk).2⟩)
                have HC3 := Lib.hid (show IsSl chgRep w3 U A n tch from HC.out.keep (fun p hp => by rw [hw3]; exact (World.cell?_setCell_other _ _ _ _ (fun e => (HU.out _ hp).2.1 (by rw [← e]))).trans (BV2.out.cell (HUL.out _ hp))))
                have HG3 := Lib.hid (show IsSl strRep w3 U A2 n2 tsg from HG.out.keep (fun p hp => by rw [hw3]; exact (World.cell?_setCell_other _ _ _ _ (fun e => (HU.out _ hp).2.1 (by rw [← e]))).trans (BV2.out.cell (HUL.out _ hp))))
                rw [← hw3]
                clear hw3
                clear t0 t1 t2 t3 t4 tz r0 r1 r2 rz g0 g1 g2 g3 g4 gz
                obtain ⟨t0, t1, t2, t3, t4, tz⟩ := BT3.out.c5
                obtain ⟨g0, g1, g2, g3, g4, gz⟩ := M3.out.blk.c5
                have hgx3 : gx < w3.heap.size := M3.out.blk.lt
                have htb3 : TB < w3.heap.size := BT3.out.lt
                have hne1 : gx ≠ w3.heap.size := by omega
                have hne2 : TB ≠ w3.heap.size := by omega
                have hgw3 : gw < w3.heap.size := M3.out.win.lt
                have hne3 : gw ≠ w3.heap.size := by omega
                have hnew := HNE.out
                have HTL3 := Lib.hid M3.out.hT
                have HWN3 := Lib.hid (show RefIn w3.drew T gw x.win from M3.out.win.below (below_drewN (Below.refl _ _) 1))
                have HWV := Lib.hid (show RefIn ((w3.alloc (.cells #[.int .i64 0, .slice none 0 0, .slice none 0 0] 62)).drew) T gw x.win from M3.out.win.below (below_drewN ((Below.refl _ _).alloc (Nat.le_refl _) _) 1))
                have HK0 := Lib.hid (show w3.drew.cell? ⟨gx, 4, none⟩ = some (.pointer (some ⟨gw, 0, none⟩)) ∧ w3.drew.cell? ⟨TB, 4, none⟩ = some (.int .i64 tm) ∧ w3.drew.cell? ⟨TB, 0, none⟩ = some (.int .i64 tl) from ⟨g4, t4, t0⟩)
                have HKV := Lib.hid (show ((w3.alloc (.cells #[.int .i64 0, .slice none 0 0, .slice none 0 0] 62)).drew).cell? ⟨gx, 4, none⟩ = some (.pointer (some ⟨gw, 0, none⟩)) ∧ ((w3.alloc (.cells #[.int .i64 0, .slice none 0 0, .slice none 0 0] 62)).drew).cell? ⟨TB, 4, none⟩ = some (.int .i64 tm) ∧ ((w3.alloc (.cells #[.int .i64 0, .slice none 0 0, .slice none 0 0] 62)).drew).cell? ⟨TB, 0, none⟩ = some (.int .i64 tl) from ⟨(((Below.refl w3.heap.size w3).alloc (Nat.le_refl _) _).cell (p := ⟨gx, 4, none⟩) hgx3).trans g4, (((Below.refl w3.heap.size w3).alloc (Nat.le_refl _) _).cell (p := ⟨TB, 4, none⟩) htb3).trans t4, (((Below.refl w3.heap.size w3).alloc (Nat.le_refl _) _).cell (p := ⟨TB, 0, none⟩) htb3).trans t0⟩)
                have HXV := Lib.hid (show Blk ((w3.alloc (.cells #[.int .i64 0, .slice none 0 0, .slice none 0 0] 62)).drew) w3.heap.size [.int .i64 0, .slice none 0 0, .slice none 0 0] from (Blk.new rfl rfl).drew)
                have hvg : gx < ((w3.alloc (.cells #[.int .i64 0, .slice none 0 0, .slice none 0 0] 62)).drew).heap.size := by simp; omega
                have hvt : TB < ((w3.alloc (.cells #[.int .i64 0, .slice none 0 0, .slice none 0 0] 62)).drew).heap.size := by simp; omega
                clear hne1 hne2
                go_region_held3 (fun w' => w'.cell? ⟨gx, 4, none⟩ = some (.pointer (some ⟨gw, 0, none⟩)) ∧ w'.cell? ⟨TB, 4, none⟩ = some (.int .i64 tm) ∧ w'.cell? ⟨TB, 0, none⟩ = some (.int .i64 tl)) (first | exact HK0.out | exact HKV.out | exact HK2.out | exact HK3.out _ | exact HK4.out _ _ _ | fail)
                  (first
                    | (go_at_call 108; (with_reducible refine (refhigh_any gw T x.win tm tl w3.drew HWN3.out hrl HFI.out HFT.out HFC.out).mono ?_); rintro e w4 ⟨A5, n5, c5, A6, n6, c6, rfl, s5, s6, o2, r2⟩; rw [HOK.out, HTL.out]; rw [HTN.out] at s6; have O2 := Lib.hid o2; have R2 := Lib.hid r2; have T5 := Lib.hid s5; have T6 := Lib.hid s6; have HK2 := Lib.hid (show w4.cell? ⟨gx, 4, none⟩ = some (.pointer (some ⟨gw, 0, none⟩)) ∧ w4.cell? ⟨TB, 4, none⟩ = some (.int .i64 tm) ∧ w4.cell? ⟨TB, 0, none⟩ = some (.int .i64 tl) from ⟨(cell_grown r2 (p := ⟨gx, 4, none⟩) hgx3 (by simpa using hnew.symm)).trans HK0.out.1, (cell_grown r2 (p := ⟨TB, 4, none⟩) htb3 (by simpa using nTw.symm)).trans HK0.out.2.1, (cell_grown r2 (p := ⟨TB, 0, none⟩) htb3 (by simpa using nTw.symm)).trans HK0.out.2.2⟩); have hs4 : w3.heap.size ≤ w4.heap.size := r2.size; have HK3 := Lib.hid (show ∀ o, (w4.alloc o).cell? ⟨gx, 4, none⟩ = some (.pointer (some ⟨gw, 0, none⟩)) ∧ (w4.alloc o).cell? ⟨TB, 4, none⟩ = some (.int .i64 tm) ∧ (w4.alloc o).cell? ⟨TB, 0, none⟩ = some (.int .i64 tl) from fun o => ⟨(((Below.refl w4.heap.size w4).alloc (Nat.le_refl _) o).cell (p := ⟨gx, 4, none⟩) (Nat.lt_of_lt_of_le hgx3 hs4)).trans HK2.out.1, (((Below.refl w4.heap.size w4).alloc (Nat.le_refl _) o).cell (p := ⟨TB, 4, none⟩) (Nat.lt_of_lt_of_le htb3 hs4)).trans HK2.out.2.1, (((Below.refl w4.heap.size w4).alloc (Nat.le_refl _) o).cell (p := ⟨TB, 0, none⟩) (Nat.lt_of_lt_of_le htb3 hs4)).trans HK2.out.2.2⟩); clear s5 s6 o2 r2)
                    | (go_at_call 108; (with_reducible refine (refhigh_any gw T x.win tm tl (w3.alloc (.cells #[.int .i64 0, .slice none 0 0, .slice none 0 0] 62)).drew HWV.out hrl HFI.out HFT.out HFC.out).mono ?_); rintro e w4 ⟨A5, n5, c5, A6, n6, c6, rfl, s5, s6, o2, r2⟩; rw [HOK.out, HTL.out]; rw [HTN.out] at s6; have O2 := Lib.hid o2; have R2 := Lib.hid r2; have T5 := Lib.hid s5; have T6 := Lib.hid s6; have HK2 := Lib.hid (show w4.cell? ⟨gx, 4, none⟩ = some (.pointer (some ⟨gw, 0, none⟩)) ∧ w4.cell? ⟨TB, 4, none⟩ = some (.int .i64 tm) ∧ w4.cell? ⟨TB, 0, none⟩ = some (.int .i64 tl) from ⟨(cell_grown r2 (p := ⟨gx, 4, none⟩) hvg (by simpa using hnew.symm)).trans HKV.out.1, (cell_grown r2 (p := ⟨TB, 4, none⟩) hvt (by simpa using nTw.symm)).trans HKV.out.2.1, (cell_grown r2 (p := ⟨TB, 0, none⟩) hvt (by simpa using nTw.symm)).trans HKV.out.2.2⟩); have HXW := Lib.hid (HXV.out.grown r2 (fun k hk e => by injection hk with hk; omega)); obtain ⟨q0, q1, q2, qz⟩ := HXW.out.c3; have HK4 := Lib.hid (show ∀ a b c, (((w4.setCell ⟨w3.heap.size, 0, none⟩ a).setCell ⟨w3.heap.size, 1, none⟩ b).setCell ⟨w3.heap.size, 2, none⟩ c).cell? ⟨gx, 4, none⟩ = some (.pointer (some ⟨gw, 0, none⟩)) ∧ (((w4.setCell ⟨w3.heap.size, 0, none⟩ a).setCell ⟨w3.heap.size, 1, none⟩ b).setCell ⟨w3.heap.size, 2, none⟩ c).cell? ⟨TB, 4, none⟩ = some (.int .i64 tm) ∧ (((w4.setCell ⟨w3.heap.size, 0, none⟩ a).setCell ⟨w3.heap.size, 1, none⟩ b).setCell ⟨w3.heap.size, 2, none⟩ c).cell? ⟨TB, 0, none⟩ = some (.int .i64 tl) from fun a b c => ⟨(cell_set3 (by show gx ≠ _; omega) a b c).trans HK2.out.1, (cell_set3 (by show TB ≠ _; omega) a b c).trans HK2.out.2.1, (cell_set3 (by show TB ≠ _; omega) a b c).trans HK2.out.2.2⟩); clear s5 s6 o2 r2)
                    | fail)
                all_goals first
                  | (obtain ⟨XB, hXB⟩ : ∃ XB, XB = w4.heap.size := ⟨_, rfl⟩
                     obtain ⟨w5, hw5⟩ : ∃ w5, w5 = w4.alloc (.cells #[.int .i64 tl, .slice A5 n5 c5, .slice A6 n6 c6] 62) := ⟨_, rfl⟩
                     have HI := Lib.hid (rhi_A (W := w3) hXB hw5 O2.out R2.out T5.out T6.out)
                     rw [← hw5, ← hXB]
                     clear hXB hw5)
                  | (obtain ⟨XB, hXB⟩ : ∃ XB, XB = w3.heap.size := ⟨_, rfl⟩
                     obtain ⟨w5, hw5⟩ : ∃ w5, w5 = (((w4.setCell ⟨XB, 0, none⟩ (.int .i64 tl)).setCell ⟨XB, 1, none⟩ (.slice A5 n5 c5)).setCell ⟨XB, 2, none⟩ (.slice A6 n6 c6)) := ⟨_, rfl⟩
                     have HI := Lib.hid (rhi_B (W := w3) (V := ((w3.alloc (.cells #[.int .i64 0, .slice none 0 0, .slice none 0 0] 62)).drew)) rfl hXB hw5 HTL3.out hgw3 O2.out R2.out (by rw [hXB]; exact HXW.out) T5.out T6.out)
                     rw [← hXB, ← hw5]
                     clear hXB hw5)
                all_goals
                  have BT5 := Lib.hid (BT3.out.rest HI.out.rest ⟨BT3.out.lt, nTw⟩)
                  have BR5 := Lib.hid (BR3.out.rest HI.out.rest ⟨BR3.out.lt, nRw⟩)
                  have HMA := Lib.hid (M3.out.winTo (z := x.win.told tm tl) HI.out.rest HI.out.win)
                  have HRS := Lib.hid (show Rest (RS w gx gw) w w5 from R3.out.trans (HI.out.rest.less (fun k hk => ⟨Nat.lt_of_lt_of_le hk.1 R3.out.size, hk.2.2⟩)))
                  clear t0 t1 t2 t3 t4 tz g0 g1 g2 g3 g4 gz
                  obtain ⟨t0, t1, t2, t3, t4, tz⟩ := BT5.out.c5
                  obtain ⟨r0, r1, r2, rz⟩ := BR5.out.c3
                  obtain ⟨x0, x1, x2, xz⟩ := HI.out.bx.c3
                  obtain ⟨g0, g1, g2, g3, g4, gz⟩ := HMA.out.blk.c5
                  obtain rfl : n6 = 1 := HI.out.s6.len
                  obtain ⟨b6, o6, nt', cs6, rfl, hb6, hx6, ⟨rfl, _⟩, hc6⟩ := HI.out.s6.at_ (k := 0) (by omega)
                  obtain rfl : (⟨2, x.win.id, 0, 0, 0, x.win.cursor, x.win.last⟩ : Note) = nt' := by simpa using hx6
                  have n0 : w5.cell? ⟨b6, o6, none⟩ = some (.int .i64 2) := by simpa using hc6 0 _ rfl
                  have n1 : w5.cell? ⟨b6, o6 + 1, none⟩ = some (.int .i64 x.win.id) := by simpa using hc6 1 _ rfl
                  have n2' : w5.cell? ⟨b6, o6 + 2, none⟩ = some (.int .i64 0) := by simpa using hc6 2 _ rfl
                  have n3 : w5.cell? ⟨b6, o6 + 3, none⟩ = some (.int .i64 0) := by simpa using hc6 3 _ rfl
                  have n4 : w5.cell? ⟨b6, o6 + 4, none⟩ = some (.int .i64 0) := by simpa using hc6 4 _ rfl
                  have n5' : w5.cell? ⟨b6, o6 + 5, none⟩ = some (.int .i64 x.win.cursor) := by simpa using hc6 5 _ rfl
                  have n6' : w5.cell? ⟨b6, o6 + 6, none⟩ = some (.bool x.win.last) := by simpa using hc6 6 _ rfl
                  clear hx6 hc6
                  go_wp2_with fail
                  obtain ⟨NB, hNB⟩ : ∃ NB, NB = w5.heap.size := ⟨_, rfl⟩
                  obtain ⟨w6, hw6⟩ : ∃ w6, w6 = w5.alloc (.cells #[.int .i64 2, .int .i64 x.win.id, .int .i64 0, .int .i64 0, .int .i64 0, .int .i64 x.win.cursor, .bool x.win.last] 91) := ⟨_, rfl⟩
                  have B6 := Lib.hid (show Below w5.heap.size w5 w6 by rw [hw6]; exact (Below.refl _ _).alloc (Nat.le_refl _) _)
                  have K6 := Lib.hid (show Blk w6 NB [.int .i64 2, .int .i64 x.win.id, .int .i64 0, .int .i64 0, .int .i64 0, .int .i64 x.win.cursor, .bool x.win.last] by rw [hw6]; exact Blk.new rfl hNB)
                  have G6 := Lib.hid (HMA.out.blk.after B6.out)
                  have hNBg := HMA.out.blk.lt
                  have HRQ := Lib.hid (show IsSl reqRep w6.drew (· < w6.drew.heap.size) Am x.reqs.length x.reqs from ((HMA.out.reqs.keep (fun p hp => B6.out.cell (HMA.out.hT _ hp))).weak (S' := (· < w6.heap.size)) (fun k hk => Nat.lt_of_lt_of_le (HMA.out.hT _ hk) B6.out.size)).keep (fun _ _ => rfl))
                  have HNB := Lib.hid hNB
                  rw [← hw6, ← hNB]
                  clear hw6 hNB t0 t1 t2 t3 t4 tz r0 r1 r2 rz g0 g1 g2 g3 g4 gz x0 x1 x2 xz n0 n1 n2' n3 n4 n5' n6'
                  obtain ⟨g0, g1, g2, g3, g4, gz⟩ := G6.out.c5
                  obtain ⟨k0, k1, k2, k3, k4, k5, k6, kz⟩ := K6.out.c7
                  have hg4 : gx < w6.drew.heap.size := G6.out.lt
                  have hk4 : NB < w6.drew.heap.size := K6.out.lt
                  go_region_held3 (fun w' => w'.cell? ⟨gx, 3, none⟩ = some (.slice Am x.reqs.length cm) ∧ w'.cell? ⟨NB, 1, none⟩ = some (.int .i64 x.win.id) ∧ w'.cell? ⟨NB, 5, none⟩ = some (.int .i64 x.win.cursor) ∧ w'.cell? ⟨NB, 6, none⟩ = some (.bool x.win.last)) (first | exact ⟨g3, k1, k5, k6⟩ | exact ⟨(B7.out.cell hg4).trans g3, (B7.out.cell hk4).trans k1, (B7.out.cell hk4).trans k5, (B7.out.cell hk4).trans k6⟩ | fail)
                    (first
                      | (go_at_call 109; (with_reducible refine (refchunk_any Am x.reqs.length cm x.reqs x.win.id x.win.cursor x.win.last w6.drew HRQ.out (by have := HFM.out; omega) HFI.out HFC.out).mono ?_); rintro e w7 ⟨v7, rfl, own7, bel7⟩; rw [← HOO.out] at own7 ⊢; obtain ⟨A7, c7, rfl⟩ := own7.form; have B7 := Lib.hid bel7; clear own7 bel7)
                      | fail)
                  have R7 := Lib.hid (show Below w5.heap.size w5 w7 from B6.out.trans ((below_of_drew' B7.out).mono B6.out.size))
                  have BR7 := Lib.hid (BR5.out.after R7.out)
                  have BX7 := Lib.hid (HI.out.bx.after R7.out)
                  have G7 := Lib.hid (HMA.out.blk.after R7.out)
                  have hXl := HI.out.bx.lt
                  clear g0 g1 g2 g3 g4 gz k0 k1 k2 k3 k4 k5 k6 kz
                  obtain ⟨g0, g1, g2, g3, g4, gz⟩ := G7.out.c5
                  obtain ⟨r0, r1, r2, rz⟩ := BR7.out.c3
                  obtain ⟨x0, x1, x2, xz⟩ := BX7.out.c3
                  have nXR : RB ≠ XB := by have := HI.out.ge; have := BR3.out.lt; omega
                  have nXR' : (XB = RB) = False := by simp; exact fun e => nXR e.symm
                  have nRX' : (RB = XB) = False := by simp; exact nXR
                  have nXg : gx ≠ XB := by have := HI.out.ge; omega
                  have nXg' : (XB = gx) = False := by simp; exact fun e => nXg e.symm
                  have ngX' : (gx = XB) = False := by simp; exact nXg
                  go_wp2
                  have hge := HI.out.ge
                  have hrw := BR3.out.lt
                  have hbs := R3.out.size
                  have hs7 := R7.out.size
                  have hs5 := HI.out.rest.size
                  obtain ⟨w8, hw8⟩ : ∃ w8, w8 = w7.setCell ⟨XB, 2, none⟩ (.slice none 0 0) := ⟨_, rfl⟩
                  have BR8 := Lib.hid (show Blk w8 RB [.int .i64 0, .slice none 0 0, .slice none 0 0] by rw [hw8]; exact BR7.out.other nXR _ _)
                  have O8 := Lib.hid (show RefOwn w8 w.heap.size T0 S' gx gw ((x.setAt tl).setWin (x.win.told tm tl)) by rw [hw8]; exact (((show RefOwn w5 w.heap.size T0 (fun k => S' k ∨ k = XB) gx gw ((x.setAt tl).setWin (x.win.told tm tl)) from ⟨T, Am, cm, HMA.out, I1.out, fun k hk hs => hs.elim (I2.out k hk) (fun e => by have := HTL3.out k hk; omega), fun hs => hs.elim I3.out (fun e => by omega), fun hs => hs.elim I4.out (fun e => by omega)⟩).below R7.out).set (.inr rfl) 2 _).sets (fun k hk => .inl (.inl hk)))
                  have HR8 := Lib.hid (show Rest (RS w gx gw) w w8 by rw [hw8]; exact (HRS.out.below (fun k hk => Nat.lt_of_lt_of_le hk.1 HRS.out.size) R7.out).set (fun hs => by have := hs.1; omega) 2 _)
                  rw [← hw8]
                  obtain ⟨W9, hW9⟩ : ∃ W9, W9 = (((w8.setCell ⟨RB, 0, none⟩ (.int .i64 tl)).setCell ⟨RB, 1, none⟩ (.slice A5 n5 c5)).setCell ⟨RB, 2, none⟩ (.slice none 0 0)) := ⟨_, rfl⟩
                  have BR9 := Lib.hid (show Blk W9 RB [.int .i64 tl, .slice A5 n5 c5, .slice none 0 0] by rw [hW9]; exact ((BR8.out.put (j := 0) (by simp) _ rfl).put (j := 1) (by simp) _ rfl).put (j := 2) (by simp) _ rfl)
                  have HRE := Lib.hid (show Rest (RS w gx gw) w w8 from HR8.out)
                  have hsz9 : w.heap.size ≤ W9.heap.size := by rw [hW9]; simp; exact HRE.out.size
                  have SO := HI.out.s5.outs (w := w) (W9 := W9) hbs (by rw [hW9, hw8]; simpa using hs7) (fun p h1 h2 h3 => by rw [hW9]; exact (cell_set3 (by omega) _ _ _).trans (by rw [hw8]; exact ((World.cell?_setCell_other _ _ _ _ (fun e => h3 (by rw [← e]))).trans (R7.out.cell h2))))
                  have SM := (show RefMx W9 (fun k => T0 k ∨ (w.heap.size ≤ k ∧ k < W9.heap.size)) gx gw ((x.setAt tl).setWin (x.win.told tm tl)) from (show RefOwn W9 w.heap.size T0 S' gx gw ((x.setAt tl).setWin (x.win.told tm tl)) by rw [hW9]; exact ((((show RefOwn w8 w.heap.size T0 S' gx gw ((x.setAt tl).setWin (x.win.told tm tl)) from O8.out).set HSR.out 0 _).set HSR.out 1 _).set HSR.out 2 _)).done (fun k hk => Nat.lt_of_lt_of_le (HTW.out k hk) hsz9) HN1.out HN2.out HGX.out HGW.out)
                  have SR := (show Rest (RS w gx gw) w W9 by rw [hW9]; exact ((HRE.out.set nSR 0 _).set nSR 1 _).set nSR 2 _)
                  rw [← hW9]
                  clear hW9 r0 r1 r2 rz
                  obtain ⟨r0, r1, r2, rz⟩ := BR9.out.c3
                  refine bodyPost_ret (by simp [results, Try.results47, go_sem, r0, r1, r2]; try rfl) rfl ?_
                  unfold RTakePost
                  rw [HHE.out, HHI2.out, HHM2.out]
                  exact ⟨_, _, _, none, 0, 0, rfl, SO, IsSl.nil, SM, SR⟩
              | some M =>
                go_enter Try.func47, Try.ntmps47
                go_wp2_with (first
                  | (go_at_call 105; rw [← HW.out, ← H2.out, ← H1.out]; (with_reducible refine (txnRefMay_any ⟨tl, 3, tch, tsg, tm⟩ A n c A2 n2 c2 W (HC.out.weak HUL.out) (HG.out.weak HUL.out)).mono ?_); rintro e w1 ⟨rfl, bel1⟩; rw [HMAY.out]; have B1 := Lib.hid bel1; have M1 := Lib.hid (HM.out.below bel1); have BT1 := Lib.hid (BT.out.after bel1); have BR1 := Lib.hid (BR.out.after bel1); obtain ⟨t0, t1, t2, t3, t4, tz⟩ := BT1.out.c5; obtain ⟨r0, r1, r2, rz⟩ := BR1.out.c3; obtain ⟨g0, g1, g2, g3, g4, gz⟩ := M1.out.blk.c5; clear bel1)
                  | fail)
                have HWN := Lib.hid (show RefIn w1.drew T gw x.win from M1.out.win.below (below_drewN (Below.refl _ _) 1))
                have hT2 : TB < w1.drew.heap.size := BT1.out.lt
                have hG2 : gx < w1.drew.heap.size := M1.out.blk.lt
                go_region_held3 (fun w' => w'.cell? ⟨TB, 0, none⟩ = some (.int .i64 tl) ∧ w'.cell? ⟨TB, 1, none⟩ = some (.int .i64 3) ∧ w'.cell? ⟨TB, 2, none⟩ = some (.slice A n c) ∧ w'.cell? ⟨TB, 3, none⟩ = some (.slice A2 n2 c2) ∧ w'.cell? ⟨TB, 4, none⟩ = some (.int .i64 tm) ∧ w'.cell? ⟨gx, 4, none⟩ = some (.pointer (some ⟨gw, 0, none⟩)) ∧ w'.cell? ⟨gx, 2, none⟩ = some (.int .i64 x.at_)) (first | exact ⟨t0, t1, t2, t3, t4, g4, g2⟩ | exact ⟨(B2.out.cell hT2).trans t0, (B2.out.cell hT2).trans t1, (B2.out.cell hT2).trans t2, (B2.out.cell hT2).trans t3, (B2.out.cell hT2).trans t4, (B2.out.cell hG2).trans g4, (B2.out.cell hG2).trans g2⟩ | fail)
                  (first
                    | (go_at_call 46; (with_reducible refine (refwaits_any gw T x.win tl 3 tm w1.drew HWN.out).mono ?_); rintro e w2 ⟨rfl, bel2⟩; rw [HWT.out]; have B2 := Lib.hid bel2; clear bel2)
                    | fail)
                have D2 := Lib.hid (show Below w1.heap.size w1 w2 from below_of_drew B2.out)
                have BW2 := Lib.hid (HB.out.trans ((B1.out.trans (D2.out.mono B1.out.size)).mono HB.out.size))
                have BV2 := Lib.hid (show Below W.heap.size W w2 from B1.out.trans (D2.out.mono B1.out.size))
                have M2 := Lib.hid (M1.out.below D2.out)
                have BT2 := Lib.hid (BT1.out.after D2.out)
                have BR2 := Lib.hid (BR1.out.after D2.out)
                clear t0 t1 t2 t3 t4 tz r0 r1 r2 rz g0 g1 g2 g3 g4 gz
                obtain ⟨t0, t1, t2, t3, t4, tz⟩ := BT2.out.c5
                obtain ⟨r0, r1, r2, rz⟩ := BR2.out.c3
                obtain ⟨g0, g1, g2, g3, g4, gz⟩ := M2.out.blk.c5
                go_wp2_with fail
                obtain ⟨w3, hw3⟩ : ∃ w3, w3 = w2.setCell ⟨gx, 2, none⟩ (.int .i64 tl) := ⟨_, rfl⟩
                have M3 := Lib.hid (show RefMxAt w3 T gx gw (x.setAt tl) Am cm by rw [hw3]; exact M2.out.setAt tl)
                have R3 := Lib.hid (show Rest (RS w gx gw) w w3 by rw [hw3]; exact ((Rest.refl (RS w gx gw) w).below (fun k hk => hk.1) BW2.out).set (fun hs => hs.2.1 rfl) 2 _)
                have hs3 : W.heap.size ≤ w3.heap.size := (by rw [hw3]; simp; exact BV2.out.size)
                have BR3 := Lib.hid (show Blk w3 RB [.int .i64 0, .slice none 0 0, .slice none 0 0] by rw [hw3]; exact BR2.out.other nRg _ _)
                have BT3 := Lib.hid (show Blk w3 TB [.int .i64 tl, .int .i64 3, .slice A n c, .slice A2 n2 c2, .int .i64 tm] by rw [hw3]; exact BT2.out.other nTg _ _)
                have HU3 := Lib.hid (show ∀ k, U k → RS w3 gx gw k from fun k hk => ⟨Nat.lt_of_lt_of_le (HUL.out k hk) hs3, (HU.out k hk).2⟩)
                have HC3 := Lib.hid (show IsSl chgRep w3 U A n tch from HC.out.keep (fun p hp => by rw [hw3]; exact (World.cell?_setCell_other _ _ _ _ (fun e => (HU.out _ hp).2.1 (by rw [← e]))).trans (BV2.out.cell (HUL.out _ hp))))
                have HG3 := Lib.hid (show IsSl strRep w3 U A2 n2 tsg from HG.out.keep (fun p hp => by rw [hw3]; exact (World.cell?_setCell_other _ _ _ _ (fun e => (HU.out _ hp).2.1 (by rw [← e]))).trans (BV2.out.cell (HUL.out _ hp))))
                rw [← hw3]
                clear hw3
                clear t0 t1 t2 t3 t4 tz r0 r1 r2 rz g0 g1 g2 g3 g4 gz
                obtain ⟨t0, t1, t2, t3, t4, tz⟩ := BT3.out.c5
                obtain ⟨g0, g1, g2, g3, g4, gz⟩ := M3.out.blk.c5
                have hgx3 : gx < w3.heap.size := M3.out.blk.lt
                have htb3 : TB < w3.heap.size := BT3.out.lt
                have hne1 : gx ≠ w3.heap.size := by omega
                have hne2 : TB ≠ w3.heap.size := by omega
                have hgw3 : gw < w3.heap.size := M3.out.win.lt
                have hne3 : gw ≠ w3.heap.size := by omega
                have hnew := HNE.out
                have HTL3 := Lib.hid M3.out.hT
                have HWN3 := Lib.hid (show RefIn w3.drew T gw x.win from M3.out.win.below (below_drewN (Below.refl _ _) 1))
                have HWV := Lib.hid (show RefIn ((w3.alloc (.cells #[.int .i64 0, .slice none 0 0, .slice none 0 0] 62)).drew) T gw x.win from M3.out.win.below (below_drewN ((Below.refl _ _).alloc (Nat.le_refl _) _) 1))
                have HK0 := Lib.hid (show w3.drew.cell? ⟨gx, 4, none⟩ = some (.pointer (some ⟨gw, 0, none⟩)) ∧ w3.drew.cell? ⟨TB, 4, none⟩ = some (.int .i64 tm) ∧ w3.drew.cell? ⟨TB, 0, none⟩ = some (.int .i64 tl) from ⟨g4, t4, t0⟩)
                have HKV := Lib.hid (show ((w3.alloc (.cells #[.int .i64 0, .slice none 0 0, .slice none 0 0] 62)).drew).cell? ⟨gx, 4, none⟩ = some (.pointer (some ⟨gw, 0, none⟩)) ∧ ((w3.alloc (.cells #[.int .i64 0, .slice none 0 0, .slice none 0 0] 62)).drew).cell? ⟨TB, 4, none⟩ = some (.int .i64 tm) ∧ ((w3.alloc (.cells #[.int .i64 0, .slice none 0 0, .slice none 0 0] 62)).drew).cell? ⟨TB, 0, none⟩ = some (.int .i64 tl) from ⟨(((Below.refl w3.heap.size w3).alloc (Nat.le_refl _) _).cell (p := ⟨gx, 4, none⟩) hgx3).trans g4, (((Below.refl w3.heap.size w3).alloc (Nat.le_refl _) _).cell (p := ⟨TB, 4, none⟩) htb3).trans t4, (((Below.refl w3.heap.size w3).alloc (Nat.le_refl _) _).cell (p := ⟨TB, 0, none⟩) htb3).trans t0⟩)
                have HXV := Lib.hid (show Blk ((w3.alloc (.cells #[.int .i64 0, .slice none 0 0, .slice none 0 0] 62)).drew) w3.heap.size [.int .i64 0, .slice none 0 0, .slice none 0 0] from (Blk.new rfl rfl).drew)
                have hvg : gx < ((w3.alloc (.cells #[.int .i64 0, .slice none 0 0, .slice none 0 0] 62)).drew).heap.size := by simp; omega
                have hvt : TB < ((w3.alloc (.cells #[.int .i64 0, .slice none 0 0, .slice none 0 0] 62)).drew).heap.size := by simp; omega
                clear hne1 hne2
                go_region_held3 (fun w' => w'.cell? ⟨gx, 4, none⟩ = some (.pointer (some ⟨gw, 0, none⟩)) ∧ w'.cell? ⟨TB, 4, none⟩ = some (.int .i64 tm) ∧ w'.cell? ⟨TB, 0, none⟩ = some (.int .i64 tl)) (first | exact HK0.out | exact HKV.out | exact HK2.out | exact HK3.out _ | exact HK4.out _ _ _ | fail)
                  (first
                    | (go_at_call 108; (with_reducible refine (refhigh_any gw T x.win tm tl w3.drew HWN3.out hrl HFI.out HFT.out HFC.out).mono ?_); rintro e w4 ⟨A5, n5, c5, A6, n6, c6, rfl, s5, s6, o2, r2⟩; rw [HOK.out, HTL.out]; rw [HTN.out] at s6; have O2 := Lib.hid o2; have R2 := Lib.hid r2; have T5 := Lib.hid s5; have T6 := Lib.hid s6; have HK2 := Lib.hid (show w4.cell? ⟨gx, 4, none⟩ = some (.pointer (some ⟨gw, 0, none⟩)) ∧ w4.cell? ⟨TB, 4, none⟩ = some (.int .i64 tm) ∧ w4.cell? ⟨TB, 0, none⟩ = some (.int .i64 tl) from ⟨(cell_grown r2 (p := ⟨gx, 4, none⟩) hgx3 (by simpa using hnew.symm)).trans HK0.out.1, (cell_grown r2 (p := ⟨TB, 4, none⟩) htb3 (by simpa using nTw.symm)).trans HK0.out.2.1, (cell_grown r2 (p := ⟨TB, 0, none⟩) htb3 (by simpa using nTw.symm)).trans HK0.out.2.2⟩); have hs4 : w3.heap.size ≤ w4.heap.size := r2.size; have HK3 := Lib.hid (show ∀ o, (w4.alloc o).cell? ⟨gx, 4, none⟩ = some (.pointer (some ⟨gw, 0, none⟩)) ∧ (w4.alloc o).cell? ⟨TB, 4, none⟩ = some (.int .i64 tm) ∧ (w4.alloc o).cell? ⟨TB, 0, none⟩ = some (.int .i64 tl) from fun o => ⟨(((Below.refl w4.heap.size w4).alloc (Nat.le_refl _) o).cell (p := ⟨gx, 4, none⟩) (Nat.lt_of_lt_of_le hgx3 hs4)).trans HK2.out.1, (((Below.refl w4.heap.size w4).alloc (Nat.le_refl _) o).cell (p := ⟨TB, 4, none⟩) (Nat.lt_of_lt_of_le htb3 hs4)).trans HK2.out.2.1, (((Below.refl w4.heap.size w4).alloc (Nat.le_refl _) o).cell (p := ⟨TB, 0, none⟩) (Nat.lt_of_lt_of_le htb3 hs4)).trans HK2.out.2.2⟩); clear s5 s6 o2 r2)
                    | (go_at_call 108; (with_reducible refine (refhigh_any gw T x.win tm tl (w3.alloc (.cells #[.int .i64 0, .slice none 0 0, .slice none 0 0] 62)).drew HWV.out hrl HFI.out HFT.out HFC.out).mono ?_); rintro e w4 ⟨A5, n5, c5, A6, n6, c6, rfl, s5, s6, o2, r2⟩; rw [HOK.out, HTL.out]; rw [HTN.out] at s6; have O2 := Lib.hid o2; have R2 := Lib.hid r2; have T5 := Lib.hid s5; have T6 := Lib.hid s6; have HK2 := Lib.hid (show w4.cell? ⟨gx, 4, none⟩ = some (.pointer (some ⟨gw, 0, none⟩)) ∧ w4.cell? ⟨TB, 4, none⟩ = some (.int .i64 tm) ∧ w4.cell? ⟨TB, 0, none⟩ = some (.int .i64 tl) from ⟨(cell_grown r2 (p := ⟨gx, 4, none⟩) hvg (by simpa using hnew.symm)).trans HKV.out.1, (cell_grown r2 (p := ⟨TB, 4, none⟩) hvt (by simpa using nTw.symm)).trans HKV.out.2.1, (cell_grown r2 (p := ⟨TB, 0, none⟩) hvt (by simpa using nTw.symm)).trans HKV.out.2.2⟩); have HXW := Lib.hid (HXV.out.grown r2 (fun k hk e => by injection hk with hk; omega)); obtain ⟨q0, q1, q2, qz⟩ := HXW.out.c3; have HK4 := Lib.hid (show ∀ a b c, (((w4.setCell ⟨w3.heap.size, 0, none⟩ a).setCell ⟨w3.heap.size, 1, none⟩ b).setCell ⟨w3.heap.size, 2, none⟩ c).cell? ⟨gx, 4, none⟩ = some (.pointer (some ⟨gw, 0, none⟩)) ∧ (((w4.setCell ⟨w3.heap.size, 0, none⟩ a).setCell ⟨w3.heap.size, 1, none⟩ b).setCell ⟨w3.heap.size, 2, none⟩ c).cell? ⟨TB, 4, none⟩ = some (.int .i64 tm) ∧ (((w4.setCell ⟨w3.heap.size, 0, none⟩ a).setCell ⟨w3.heap.size, 1, none⟩ b).setCell ⟨w3.heap.size, 2, none⟩ c).cell? ⟨TB, 0, none⟩ = some (.int .i64 tl) from fun a b c => ⟨(cell_set3 (by show gx ≠ _; omega) a b c).trans HK2.out.1, (cell_set3 (by show TB ≠ _; omega) a b c).trans HK2.out.2.1, (cell_set3 (by show TB ≠ _; omega) a b c).trans HK2.out.2.2⟩); clear s5 s6 o2 r2)
                    | fail)
                all_goals first
                  | (obtain ⟨XB, hXB⟩ : ∃ XB, XB = w4.heap.size := ⟨_, rfl⟩
                     obtain ⟨w5, hw5⟩ : ∃ w5, w5 = w4.alloc (.cells #[.int .i64 tl, .slice A5 n5 c5, .slice A6 n6 c6] 62) := ⟨_, rfl⟩
                     have HI := Lib.hid (rhi_A (W := w3) hXB hw5 O2.out R2.out T5.out T6.out)
                     rw [← hw5, ← hXB]
                     clear hXB hw5)
                  | (obtain ⟨XB, hXB⟩ : ∃ XB, XB = w3.heap.size := ⟨_, rfl⟩
                     obtain ⟨w5, hw5⟩ : ∃ w5, w5 = (((w4.setCell ⟨XB, 0, none⟩ (.int .i64 tl)).setCell ⟨XB, 1, none⟩ (.slice A5 n5 c5)).setCell ⟨XB, 2, none⟩ (.slice A6 n6 c6)) := ⟨_, rfl⟩
                     have HI := Lib.hid (rhi_B (W := w3) (V := ((w3.alloc (.cells #[.int .i64 0, .slice none 0 0, .slice none 0 0] 62)).drew)) rfl hXB hw5 HTL3.out hgw3 O2.out R2.out (by rw [hXB]; exact HXW.out) T5.out T6.out)
                     rw [← hXB, ← hw5]
                     clear hXB hw5)
                all_goals
                  have BT5 := Lib.hid (BT3.out.rest HI.out.rest ⟨BT3.out.lt, nTw⟩)
                  have BR5 := Lib.hid (BR3.out.rest HI.out.rest ⟨BR3.out.lt, nRw⟩)
                  have HMA := Lib.hid (M3.out.winTo (z := x.win.told tm tl) HI.out.rest HI.out.win)
                  have HRS := Lib.hid (show Rest (RS w gx gw) w w5 from R3.out.trans (HI.out.rest.less (fun k hk => ⟨Nat.lt_of_lt_of_le hk.1 R3.out.size, hk.2.2⟩)))
                  clear t0 t1 t2 t3 t4 tz g0 g1 g2 g3 g4 gz
                  obtain ⟨t0, t1, t2, t3, t4, tz⟩ := BT5.out.c5
                  obtain ⟨r0, r1, r2, rz⟩ := BR5.out.c3
                  obtain ⟨x0, x1, x2, xz⟩ := HI.out.bx.c3
                  obtain ⟨g0, g1, g2, g3, g4, gz⟩ := HMA.out.blk.c5
                  obtain rfl : n6 = 1 := HI.out.s6.len
                  obtain ⟨b6, o6, nt', cs6, rfl, hb6, hx6, ⟨rfl, _⟩, hc6⟩ := HI.out.s6.at_ (k := 0) (by omega)
                  obtain rfl : (⟨2, x.win.id, 0, 0, 0, x.win.cursor, x.win.last⟩ : Note) = nt' := by simpa using hx6
                  have n0 : w5.cell? ⟨b6, o6, none⟩ = some (.int .i64 2) := by simpa using hc6 0 _ rfl
                  have n1 : w5.cell? ⟨b6, o6 + 1, none⟩ = some (.int .i64 x.win.id) := by simpa using hc6 1 _ rfl
                  have n2' : w5.cell? ⟨b6, o6 + 2, none⟩ = some (.int .i64 0) := by simpa using hc6 2 _ rfl
                  have n3 : w5.cell? ⟨b6, o6 + 3, none⟩ = some (.int .i64 0) := by simpa using hc6 3 _ rfl
                  have n4 : w5.cell? ⟨b6, o6 + 4, none⟩ = some (.int .i64 0) := by simpa using hc6 4 _ rfl
                  have n5' : w5.cell? ⟨b6, o6 + 5, none⟩ = some (.int .i64 x.win.cursor) := by simpa using hc6 5 _ rfl
                  have n6' : w5.cell? ⟨b6, o6 + 6, none⟩ = some (.bool x.win.last) := by simpa using hc6 6 _ rfl
                  clear hx6 hc6
                  go_wp2_with fail
                  obtain ⟨NB, hNB⟩ : ∃ NB, NB = w5.heap.size := ⟨_, rfl⟩
                  obtain ⟨w6, hw6⟩ : ∃ w6, w6 = w5.alloc (.cells #[.int .i64 2, .int .i64 x.win.id, .int .i64 0, .int .i64 0, .int .i64 0, .int .i64 x.win.cursor, .bool x.win.last] 91) := ⟨_, rfl⟩
                  have B6 := Lib.hid (show Below w5.heap.size w5 w6 by rw [hw6]; exact (Below.refl _ _).alloc (Nat.le_refl _) _)
                  have K6 := Lib.hid (show Blk w6 NB [.int .i64 2, .int .i64 x.win.id, .int .i64 0, .int .i64 0, .int .i64 0, .int .i64 x.win.cursor, .bool x.win.last] by rw [hw6]; exact Blk.new rfl hNB)
                  have G6 := Lib.hid (HMA.out.blk.after B6.out)
                  have hNBg := HMA.out.blk.lt
                  have HRQ := Lib.hid (show IsSl reqRep w6.drew (· < w6.drew.heap.size) Am x.reqs.length x.reqs from ((HMA.out.reqs.keep (fun p hp => B6.out.cell (HMA.out.hT _ hp))).weak (S' := (· < w6.heap.size)) (fun k hk => Nat.lt_of_lt_of_le (HMA.out.hT _ hk) B6.out.size)).keep (fun _ _ => rfl))
                  have HNB := Lib.hid hNB
                  rw [← hw6, ← hNB]
                  clear hw6 hNB t0 t1 t2 t3 t4 tz r0 r1 r2 rz g0 g1 g2 g3 g4 gz x0 x1 x2 xz n0 n1 n2' n3 n4 n5' n6'
                  obtain ⟨g0, g1, g2, g3, g4, gz⟩ := G6.out.c5
                  obtain ⟨k0, k1, k2, k3, k4, k5, k6, kz⟩ := K6.out.c7
                  have hg4 : gx < w6.drew.heap.size := G6.out.lt
                  have hk4 : NB < w6.drew.heap.size := K6.out.lt
                  go_region_held3 (fun w' => w'.cell? ⟨gx, 3, none⟩ = some (.slice Am x.reqs.length cm) ∧ w'.cell? ⟨NB, 1, none⟩ = some (.int .i64 x.win.id) ∧ w'.cell? ⟨NB, 5, none⟩ = some (.int .i64 x.win.cursor) ∧ w'.cell? ⟨NB, 6, none⟩ = some (.bool x.win.last)) (first | exact ⟨g3, k1, k5, k6⟩ | exact ⟨(B7.out.cell hg4).trans g3, (B7.out.cell hk4).trans k1, (B7.out.cell hk4).trans k5, (B7.out.cell hk4).trans k6⟩ | fail)
                    (first
                      | (go_at_call 109; (with_reducible refine (refchunk_any Am x.reqs.length cm x.reqs x.win.id x.win.cursor x.win.last w6.drew HRQ.out (by have := HFM.out; omega) HFI.out HFC.out).mono ?_); rintro e w7 ⟨v7, rfl, own7, bel7⟩; rw [← HOO.out] at own7 ⊢; rw [show (some M).getD [] = M from rfl] at own7; obtain ⟨A7, c7, rfl, l7, m7', s7⟩ := own7.isSlR; obtain ⟨m7, hm7⟩ : ∃ m7, m7 = M.length := ⟨_, rfl⟩; rw [← hm7] at l7 s7 ⊢; have S7 := Lib.hid s7; clear s7 hm7; have B7 := Lib.hid bel7; clear own7 bel7)
                      | fail)
                  have R7 := Lib.hid (show Below w5.heap.size w5 w7 from B6.out.trans ((below_of_drew' B7.out).mono B6.out.size))
                  have BR7 := Lib.hid (BR5.out.after R7.out)
                  have BX7 := Lib.hid (HI.out.bx.after R7.out)
                  have G7 := Lib.hid (HMA.out.blk.after R7.out)
                  have hXl := HI.out.bx.lt
                  clear g0 g1 g2 g3 g4 gz k0 k1 k2 k3 k4 k5 k6 kz
                  obtain ⟨g0, g1, g2, g3, g4, gz⟩ := G7.out.c5
                  obtain ⟨r0, r1, r2, rz⟩ := BR7.out.c3
                  obtain ⟨x0, x1, x2, xz⟩ := BX7.out.c3
                  have nXR : RB ≠ XB := by have := HI.out.ge; have := BR3.out.lt; omega
                  have nXR' : (XB = RB) = False := by simp; exact fun e => nXR e.symm
                  have nRX' : (RB = XB) = False := by simp; exact nXR
                  have nXg : gx ≠ XB := by have := HI.out.ge; omega
                  have nXg' : (XB = gx) = False := by simp; exact fun e => nXg e.symm
                  have ngX' : (gx = XB) = False := by simp; exact nXg
                  go_wp2
                  have hge := HI.out.ge
                  have hrw := BR3.out.lt
                  have hbs := R3.out.size
                  have hs7 := R7.out.size
                  have hs5 := HI.out.rest.size
                  obtain ⟨w8, hw8⟩ : ∃ w8, w8 = w7.setCell ⟨gx, 3, none⟩ (.slice A7 m7 c7) := ⟨_, rfl⟩
                  have BR8 := Lib.hid (show Blk w8 RB [.int .i64 0, .slice none 0 0, .slice none 0 0] by rw [hw8]; exact BR7.out.other nRg _ _)
                  have O8 := Lib.hid (show RefOwn w8 w.heap.size T0 S' gx gw (((x.setAt tl).setWin (x.win.told tm tl)).setReqs M) by rw [hw8]; exact (show RefOwn w5 w.heap.size T0 S' gx gw ((x.setAt tl).setWin (x.win.told tm tl)) from ⟨T, Am, cm, HMA.out, I1.out, I2.out, I3.out, I4.out⟩).newReqs (Nat.le_trans hbs hs5) (fun k hk => Nat.lt_of_lt_of_le (Nat.lt_of_lt_of_le (HSL.out k hk).2 hs3) hs5) R7.out (S7.out.weak (fun k hk => ⟨Nat.le_trans B6.out.size hk.1, hk.2⟩)))
                  have HR8 := Lib.hid (show Rest (RS w gx gw) w w8 by rw [hw8]; exact (HRS.out.below (fun k hk => Nat.lt_of_lt_of_le hk.1 HRS.out.size) R7.out).set (fun hs => hs.2.1 rfl) 3 _)
                  have hce := (show ∀ p : Addr, w3.heap.size ≤ p.block → p.block < w5.heap.size → p.block ≠ XB → w8.cell? p = w5.cell? p from fun p h1 h2 h3 => by rw [hw8]; exact (World.cell?_setCell_other _ _ _ _ (fun e => by rw [← e] at h1; dsimp only at h1; omega)).trans (R7.out.cell h2))
                  have hs8 : w5.heap.size ≤ w8.heap.size := by rw [hw8]; simpa using hs7
                  rw [← hw8]
                  obtain ⟨W9, hW9⟩ : ∃ W9, W9 = (((w8.setCell ⟨RB, 0, none⟩ (.int .i64 tl)).setCell ⟨RB, 1, none⟩ (.slice A5 n5 c5)).setCell ⟨RB, 2, none⟩ (.slice (some ⟨b6, o6, none⟩) 1 c6)) := ⟨_, rfl⟩
                  have BR9 := Lib.hid (show Blk W9 RB [.int .i64 tl, .slice A5 n5 c5, .slice (some ⟨b6, o6, none⟩) 1 c6] by rw [hW9]; exact ((BR8.out.put (j := 0) (by simp) _ rfl).put (j := 1) (by simp) _ rfl).put (j := 2) (by simp) _ rfl)
                  have HRE := Lib.hid (show Rest (RS w gx gw) w w8 from HR8.out)
                  have hsz9 : w.heap.size ≤ W9.heap.size := by rw [hW9]; simp; exact HRE.out.size
                  have SO := HI.out.s5.outs (w := w) (W9 := W9) hbs (by rw [hW9]; simpa using hs8) (fun p h1 h2 h3 => by rw [hW9]; exact (cell_set3 (by omega) _ _ _).trans (hce p h1 h2 h3))
                  have SN := HI.out.s6.outs (w := w) (W9 := W9) hbs (by rw [hW9]; simpa using hs8) (fun p h1 h2 h3 => by rw [hW9]; exact (cell_set3 (by omega) _ _ _).trans (hce p h1 h2 h3))
                  have SM := (show RefMx W9 (fun k => T0 k ∨ (w.heap.size ≤ k ∧ k < W9.heap.size)) gx gw (((x.setAt tl).setReqs M).setWin (x.win.told tm tl)) from (show RefOwn W9 w.heap.size T0 S' gx gw (((x.setAt tl).setReqs M).setWin (x.win.told tm tl)) by rw [hW9]; exact ((((show RefOwn w8 w.heap.size T0 S' gx gw (((x.setAt tl).setReqs M).setWin (x.win.told tm tl)) from O8.out).set HSR.out 0 _).set HSR.out 1 _).set HSR.out 2 _)).done (fun k hk => Nat.lt_of_lt_of_le (HTW.out k hk) hsz9) HN1.out HN2.out HGX.out HGW.out)
                  have SR := (show Rest (RS w gx gw) w W9 by rw [hW9]; exact ((HRE.out.set nSR 0 _).set nSR 1 _).set nSR 2 _)
                  rw [← hW9]
                  clear hW9 r0 r1 r2 rz
                  obtain ⟨r0, r1, r2, rz⟩ := BR9.out.c3
                  refine bodyPost_ret (by simp [results, Try.results47, go_sem, r0, r1, r2]; try rfl) rfl ?_
                  unfold RTakePost
                  rw [HHE.out, HHI2.out, HHM2.out]
                  try dsimp only
                  rw [HTE.out] at SO ⊢
                  exact ⟨_, _, _, _, _, _, rfl, SO, SN, SM, SR⟩
          case neg =>
            have hk2 : tk = 2 := by omega
            subst hk2
            have HHE := Lib.hid HH.out.1
            have HHI := Lib.hid (show x.takeI ⟨tl, 2, tch, tsg, tm⟩ = ⟨tl, [], []⟩ from HH.out.2.1.trans ((if_neg (show ¬ (2 : Int) = 1 by decide)).trans (if_neg (show ¬ (2 : Int) = 3 by decide))))
            have HHM := Lib.hid (show x.takeM ⟨tl, 2, tch, tsg, tm⟩ = (x.setAt tl).setWin (x.win.low tm) from HH.out.2.2.trans ((if_neg (show ¬ (2 : Int) = 1 by decide)).trans (if_neg (show ¬ (2 : Int) = 3 by decide))))
            clear HH
            clear HK3 hk3 hk1
            go_enter Try.func47, Try.ntmps47
            go_wp2_with (first
              | (go_at_call 105; rw [← HW.out, ← H2.out, ← H1.out]; (with_reducible refine (txnRefMay_any ⟨tl, 2, tch, tsg, tm⟩ A n c A2 n2 c2 W (HC.out.weak HUL.out) (HG.out.weak HUL.out)).mono ?_); rintro e w1 ⟨rfl, bel1⟩; rw [HMAY.out]; have B1 := Lib.hid bel1; have M1 := Lib.hid (HM.out.below bel1); have BT1 := Lib.hid (BT.out.after bel1); have BR1 := Lib.hid (BR.out.after bel1); obtain ⟨t0, t1, t2, t3, t4, tz⟩ := BT1.out.c5; obtain ⟨r0, r1, r2, rz⟩ := BR1.out.c3; obtain ⟨g0, g1, g2, g3, g4, gz⟩ := M1.out.blk.c5; clear bel1)
              | fail)
            have HWN := Lib.hid (show RefIn w1.drew T gw x.win from M1.out.win.below (below_drewN (Below.refl _ _) 1))
            have hT2 : TB < w1.drew.heap.size := BT1.out.lt
            have hG2 : gx < w1.drew.heap.size := M1.out.blk.lt
            go_region_held3 (fun w' => w'.cell? ⟨TB, 0, none⟩ = some (.int .i64 tl) ∧ w'.cell? ⟨TB, 1, none⟩ = some (.int .i64 2) ∧ w'.cell? ⟨TB, 2, none⟩ = some (.slice A n c) ∧ w'.cell? ⟨TB, 3, none⟩ = some (.slice A2 n2 c2) ∧ w'.cell? ⟨TB, 4, none⟩ = some (.int .i64 tm) ∧ w'.cell? ⟨gx, 4, none⟩ = some (.pointer (some ⟨gw, 0, none⟩)) ∧ w'.cell? ⟨gx, 2, none⟩ = some (.int .i64 x.at_)) (first | exact ⟨t0, t1, t2, t3, t4, g4, g2⟩ | exact ⟨(B2.out.cell hT2).trans t0, (B2.out.cell hT2).trans t1, (B2.out.cell hT2).trans t2, (B2.out.cell hT2).trans t3, (B2.out.cell hT2).trans t4, (B2.out.cell hG2).trans g4, (B2.out.cell hG2).trans g2⟩ | fail)
              (first
                | (go_at_call 46; (with_reducible refine (refwaits_any gw T x.win tl 2 tm w1.drew HWN.out).mono ?_); rintro e w2 ⟨rfl, bel2⟩; rw [HWT.out]; have B2 := Lib.hid bel2; clear bel2)
                | fail)
            have D2 := Lib.hid (show Below w1.heap.size w1 w2 from below_of_drew B2.out)
            have BW2 := Lib.hid (HB.out.trans ((B1.out.trans (D2.out.mono B1.out.size)).mono HB.out.size))
            have BV2 := Lib.hid (show Below W.heap.size W w2 from B1.out.trans (D2.out.mono B1.out.size))
            have M2 := Lib.hid (M1.out.below D2.out)
            have BT2 := Lib.hid (BT1.out.after D2.out)
            have BR2 := Lib.hid (BR1.out.after D2.out)
            clear t0 t1 t2 t3 t4 tz r0 r1 r2 rz g0 g1 g2 g3 g4 gz
            obtain ⟨t0, t1, t2, t3, t4, tz⟩ := BT2.out.c5
            obtain ⟨r0, r1, r2, rz⟩ := BR2.out.c3
            obtain ⟨g0, g1, g2, g3, g4, gz⟩ := M2.out.blk.c5
            go_wp2_with fail
            obtain ⟨w3, hw3⟩ : ∃ w3, w3 = w2.setCell ⟨gx, 2, none⟩ (.int .i64 tl) := ⟨_, rfl⟩
            have M3 := Lib.hid (show RefMxAt w3 T gx gw (x.setAt tl) Am cm by rw [hw3]; exact M2.out.setAt tl)
            have R3 := Lib.hid (show Rest (RS w gx gw) w w3 by rw [hw3]; exact ((Rest.refl (RS w gx gw) w).below (fun k hk => hk.1) BW2.out).set (fun hs => hs.2.1 rfl) 2 _)
            have hs3 : W.heap.size ≤ w3.heap.size := (by rw [hw3]; simp; exact BV2.out.size)
            have BR3 := Lib.hid (show Blk w3 RB [.int .i64 0, .slice none 0 0, .slice none 0 0] by rw [hw3]; exact BR2.out.other nRg _ _)
            have BT3 := Lib.hid (show Blk w3 TB [.int .i64 tl, .int .i64 2, .slice A n c, .slice A2 n2 c2, .int .i64 tm] by rw [hw3]; exact BT2.out.other nTg _ _)
            have HU3 := Lib.hid (show ∀ k, U k → RS w3 gx gw k from fun k hk => ⟨Nat.lt_of_lt_of_le (HUL.out k hk) hs3, (HU.out k hk).2⟩)
            have HC3 := Lib.hid (show IsSl chgRep w3 U A n tch from HC.out.keep (fun p hp => by rw [hw3]; exact (World.cell?_setCell_other _ _ _ _ (fun e => (HU.out _ hp).2.1 (by rw [← e]))).trans (BV2.out.cell (HUL.out _ hp))))
            have HG3 := Lib.hid (show IsSl strRep w3 U A2 n2 tsg from HG.out.keep (fun p hp => by rw [hw3]; exact (World.cell?_setCell_other _ _ _ _ (fun e => (HU.out _ hp).2.1 (by rw [← e]))).trans (BV2.out.cell (HUL.out _ hp))))
            rw [← hw3]
            clear hw3
            clear t0 t1 t2 t3 t4 tz r0 r1 r2 rz g0 g1 g2 g3 g4 gz
            obtain ⟨t0, t1, t2, t3, t4, tz⟩ := BT3.out.c5
            obtain ⟨g0, g1, g2, g3, g4, gz⟩ := M3.out.blk.c5
            have HWN3 := Lib.hid (show RefIn w3.drew T gw x.win from M3.out.win.below (below_drewN (Below.refl _ _) 1))
            have hgx3 : gx < w3.drew.heap.size := M3.out.blk.lt
            have htb3 : TB < w3.drew.heap.size := BT3.out.lt
            have hnew := HNE.out
            go_region_held3 (fun w' => w'.cell? ⟨gx, 4, none⟩ = some (.pointer (some ⟨gw, 0, none⟩)) ∧ w'.cell? ⟨TB, 4, none⟩ = some (.int .i64 tm)) (first | exact ⟨g4, t4⟩ | exact ⟨(cell_grown R4.out (p := ⟨gx, 4, none⟩) hgx3 (by simpa using hnew.symm)).trans g4, (cell_grown R4.out (p := ⟨TB, 4, none⟩) htb3 (by simpa using nTw.symm)).trans t4⟩ | fail)
              (first
                | (go_at_call 107; (with_reducible refine (reflow_any gw T x.win tm w3.drew HWN3.out).mono ?_); rintro e w4 ⟨rfl, o4, r4⟩; have O4 := Lib.hid o4; have R4 := Lib.hid r4; clear o4 r4)
                | fail)
            have R4' := Lib.hid (show Rest (fun k => k < w3.heap.size ∧ k ≠ gw) w3 w4 from ⟨R4.out.os, R4.out.tape, R4.out.output, R4.out.size, fun k hk => R4.out.block k hk.1 (fun e => hk.2 (by injection e))⟩)
            have M4 := Lib.hid (M3.out.winTo (z := x.win.low tm) R4'.out O4.out)
            have BR4 := Lib.hid (BR3.out.rest R4'.out ⟨BR3.out.lt, nRw⟩)
            have BT4 := Lib.hid (BT3.out.rest R4'.out ⟨BT3.out.lt, nTw⟩)
            clear t0 t1 t2 t3 t4 tz g0 g1 g2 g3 g4 gz
            obtain ⟨t0, t1, t2, t3, t4, tz⟩ := BT4.out.c5
            obtain ⟨r0, r1, r2, rz⟩ := BR4.out.c3
            go_wp2
            obtain ⟨W9, hW9⟩ : ∃ W9, W9 = (((w4.setCell ⟨RB, 0, none⟩ (.int .i64 tl)).setCell ⟨RB, 1, none⟩ (.slice none 0 0)).setCell ⟨RB, 2, none⟩ (.slice none 0 0)) := ⟨_, rfl⟩
            have BR9 := Lib.hid (show Blk W9 RB [.int .i64 tl, .slice none 0 0, .slice none 0 0] by rw [hW9]; exact ((BR4.out.put (j := 0) (by simp) _ rfl).put (j := 1) (by simp) _ rfl).put (j := 2) (by simp) _ rfl)
            have HRE := Lib.hid (show Rest (RS w gx gw) w w4 from R3.out.trans (R4'.out.less (fun k hk => ⟨Nat.lt_of_lt_of_le hk.1 R3.out.size, hk.2.2⟩)))
            have hsz9 : w.heap.size ≤ W9.heap.size := by rw [hW9]; simp; exact HRE.out.size
            have SM := (show RefMx W9 (fun k => T0 k ∨ (w.heap.size ≤ k ∧ k < W9.heap.size)) gx gw ((x.setAt tl).setWin (x.win.low tm)) from (show RefOwn W9 w.heap.size T0 S' gx gw ((x.setAt tl).setWin (x.win.low tm)) by rw [hW9]; exact ((((show RefOwn w4 w.heap.size T0 S' gx gw ((x.setAt tl).setWin (x.win.low tm)) from ⟨T, Am, cm, M4.out, I1.out, I2.out, I3.out, I4.out⟩).set HSR.out 0 _).set HSR.out 1 _).set HSR.out 2 _)).done (fun k hk => Nat.lt_of_lt_of_le (HTW.out k hk) hsz9) HN1.out HN2.out HGX.out HGW.out)
            have SR := (show Rest (RS w gx gw) w W9 by rw [hW9]; exact ((HRE.out.set nSR 0 _).set nSR 1 _).set nSR 2 _)
            rw [← hW9]
            clear hW9 r0 r1 r2 rz
            obtain ⟨r0, r1, r2, rz⟩ := BR9.out.c3
            refine bodyPost_ret (by simp [results, Try.results47, go_sem, r0, r1, r2]; try rfl) rfl ?_
            unfold RTakePost
            rw [HHE.out, HHI.out, HHM.out]
            exact ⟨none, 0, 0, none, 0, 0, rfl, IsSl.nil, IsSl.nil, SM, SR⟩
end Go.Proofs.Ythhpddiicnjmmaa
