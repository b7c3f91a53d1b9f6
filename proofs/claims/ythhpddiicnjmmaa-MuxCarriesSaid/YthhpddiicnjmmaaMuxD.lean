/- Contracts of the mux: At, Reqs, Waits, Window. Contract of the mux: Take. Written by gen_mux9.py. Plain laws of the mux: what holds of it goes on to hold. Contract: the awake of layer 27. -/
import Derived.Test.YthhpddiicnjmmaaMuxC
import Derived.Deep.RegionHeld3
import Derived.Test.YthhpddiicnjmmaaMux6
import Derived.Test.YthhpddiicnjmmaaMux7
import Derived.Test.YthhpddiicnjmmaaTxnA
import Derived.Deep.QuietTactic
import Derived.BigQuiet
import Derived.Test.YthhpddiicnjmmaaReqG
set_option linter.unusedVariables false
set_option linter.unusedSimpArgs false
set_option maxRecDepth 100000
namespace Go.Proofs.Ythhpddiicnjmmaa
open Go.RowKit

theorem muxAt_any (S : Nat → Prop) (gm g : Nat) (x : Mx) (w : World) (h : MuxOwn w S gm g x) :
    Calls Try.prog 29 #[.pointer (some ⟨gm, 0, none⟩)] w fun e w' => e = .returned (.int .i64 x.at_) ∧ w = w' := by
  obtain ⟨T, A, c, hb, _, _, _, _⟩ := h.cells
  obtain ⟨c0, c1, c2, c3, c4, cz⟩ := hb.c5
  clear hb
  go_enter Try.func29, Try.ntmps29
  go_wp2
  go_ret
  exact ⟨rfl, rfl⟩

theorem muxReqs_any (S : Nat → Prop) (gm g : Nat) (x : Mx) (w : World) (h : MuxOwn w S gm g x) (hn : x.reqs.length ≤ 64) :
    Calls Try.prog 40 #[.pointer (some ⟨gm, 0, none⟩)] w fun e w' => ∃ A c, e = .returned (.slice A x.reqs.length c) ∧ IsSl reqRep w' (fun k => w.heap.size ≤ k ∧ k < w'.heap.size) A x.reqs.length x.reqs ∧ Below w.heap.size w w' := by
  obtain ⟨T, A, c, hb, hsl, hc1, hc2, hT⟩ := h.cells
  obtain ⟨c0, c1, c2, c3, c4, cz⟩ := hb.c5
  have HSL := Lib.hid (hsl.weak hT)
  clear hb hsl
  go_enter Try.func40, Try.ntmps40
  go_wp2_with (first
    | (go_at_call 75; (with_reducible refine (cloneReq_any A x.reqs.length c x.reqs w HSL.out (by omega)).mono ?_); rintro e w3 ⟨v3, rfl, own3, bel3⟩; obtain ⟨A3, c3, rfl, l3, m3, sl3⟩ := own3.isSlR; have SL3 := Lib.hid sl3; have B3 := Lib.hid bel3; clear own3 bel3 sl3)
    | fail)
  go_ret
  exact ⟨_, _, rfl, SL3.out, B3.out⟩

theorem muxWindow_any (g : Nat) (w : World) :
    Calls Try.prog 90 #[.agg #[.pointer (some ⟨g, 0, none⟩)]] w fun e w' => e = .returned (.pointer (some ⟨g, 0, none⟩)) ∧ Below w.heap.size w w' := by
  go_enter Try.func90, Try.ntmps90
  go_wp2
  go_ret
  exact ⟨rfl, (Below.refl _ _).alloc (Nat.le_refl _) _⟩

theorem muxWaits_any (S : Nat → Prop) (g : Nat) (y : Win) (w : World) (h : WinOwn w S g y) (lsn kind mark : Int) (A : Option Addr) (n c : Nat) (A2 : Option Addr) (n2 c2 : Nat) :
    Calls Try.prog 45 #[.agg #[.pointer (some ⟨g, 0, none⟩)], .agg #[.int .i64 lsn, .int .i64 kind, .slice A n c, .slice A2 n2 c2, .int .i64 mark]] w fun e w' => e = .returned (.bool (y.waits kind mark)) ∧ Below w.heap.size w w' := by
  obtain ⟨W, hW⟩ : ∃ W, W = (w.alloc (.cells #[.pointer (some ⟨g, 0, none⟩)] 110)).alloc (.cells #[.int .i64 lsn, .int .i64 kind, .slice A n c, .slice A2 n2 c2, .int .i64 mark] 68) := ⟨_, rfl⟩
  have hb : Below w.heap.size w W := by rw [hW]; exact ((Below.refl _ _).alloc (Nat.le_refl _) _).alloc (by simp) _
  have HW := Lib.hid hW
  have HB := Lib.hid hb
  have HO := Lib.hid (h.below hb)
  clear hW hb h
  go_enter Try.func45, Try.ntmps45
  go_wp2_with (first
    | (go_at_call 104; rw [← HW.out]; (with_reducible refine (winwaits_any g S y lsn kind mark W HO.out).mono ?_); rintro e w3 ⟨rfl, bel3⟩)
    | fail)
  go_ret
  exact ⟨rfl, bel_n HB.out bel3⟩
end Go.Proofs.Ythhpddiicnjmmaa

set_option linter.unusedVariables false
set_option linter.unusedSimpArgs false
set_option maxRecDepth 100000
namespace Go.Proofs.Ythhpddiicnjmmaa
open Go.RowKit

/-- What Take leaves. -/
def TakePost (w : World) (S : Nat → Prop) (gm g : Nat) (x : Mx) (t : Txn) (e : Ending) (w' : World) : Prop :=
  ∃ A n c A2 n2 c2, e = .returned (.tuple #[.agg #[.int .i64 (x.takeI t).lsn, .slice A n c, .slice A2 n2 c2], .int .i64 (x.takeE t)]) ∧ IsSl oprRep w' (fun k => w.heap.size ≤ k ∧ k < w'.heap.size) A n (x.takeI t).ops ∧ IsSl noteRep w' (fun k => w.heap.size ≤ k ∧ k < w'.heap.size) A2 n2 (x.takeI t).notes ∧ MuxOwn w' S gm g (x.takeM t) ∧ Rest S w w'

theorem MuxAt.setAt {w : World} {S T : Nat → Prop} {gm g : Nat} {x : Mx} {A : Option Addr} {c : Nat} (h : MuxAt w S T gm g x A c) (n : Int) : MuxAt (w.setCell ⟨gm, 3, none⟩ (.int .i64 n)) S T gm g (x.setAt n) A c :=
  ⟨h.blk.put (j := 3) (by simp) _ rfl, h.reqs.grownT (grown_setB w ⟨gm, 3, none⟩ _) h.hT (fun k hk hT => h.nT (by injection hk with hk; dsimp only at hk; rw [hk]; exact hT)), h.c1, h.c2, h.win.grown (grown_setB w ⟨gm, 3, none⟩ _) (fun k hk => by injection hk with hk; exact .inr (.inr hk.symm)), fun k hk => by simp; exact h.hT k hk, h.nT, h.nS, h.dT⟩

section
variable {x : Mx} {t : Txn}
theorem take_no (h : mayTxn t = false) : x.takeE t = 1 ∧ x.takeI t = ⟨0, [], []⟩ ∧ x.takeM t = x := by
  have e : x.takeE t = 1 := if_neg (by rw [h]; simp)
  exact ⟨e, if_neg (by rw [e]; decide), if_neg (by rw [e]; decide)⟩
theorem take_bad (h : mayTxn t = true) (hb : x.bad t = true) : x.takeE t = 10 ∧ x.takeI t = ⟨0, [], []⟩ ∧ x.takeM t = x := by
  have e : x.takeE t = 10 := by unfold Mx.takeE; rw [if_pos h, if_pos hb]
  exact ⟨e, if_neg (by rw [e]; decide), if_neg (by rw [e]; decide)⟩
theorem take_ok (h : mayTxn t = true) (hb : x.bad t = false) : x.takeE t = 0 ∧ x.takeI t = (if t.kind = 1 then (x.setAt t.lsn).cliI t else if t.kind = 3 then (x.setAt t.lsn).highI t else ⟨t.lsn, [], []⟩) ∧ x.takeM t = (if t.kind = 1 then (x.setAt t.lsn).cliM t else if t.kind = 3 then (x.setAt t.lsn).highM t else (x.setAt t.lsn).setWin (x.win.low t.mark)) := by
  have e : x.takeE t = 0 := by unfold Mx.takeE; rw [if_pos h, if_neg (by rw [hb]; simp)]
  exact ⟨e, if_pos e, if_pos e⟩
end

theorem mayTxn_lsn {t : Txn} (h : mayTxn t = true) : 1 ≤ t.lsn ∧ t.lsn ≤ 1099511627776 ∧ (t.kind = 1 ∨ t.kind = 2 ∨ t.kind = 3) ∧ (t.kind = 1 → t.changes.length ≤ 16 ∧ t.signals.length ≤ 2) := by
  unfold mayTxn at h
  rw [Bool.and_eq_true] at h
  have h1 := of_decide_eq_true h.1
  refine ⟨h1.1, h1.2, ?_, ?_⟩
  · have h2 := h.2
    by_cases hk : t.kind = 1
    · exact .inl hk
    · rw [if_neg hk] at h2
      have := of_decide_eq_true h2
      omega
  · intro hk
    have h2 := h.2
    rw [if_pos hk] at h2
    unfold mayCli at h2
    rw [Bool.and_eq_true] at h2
    have := of_decide_eq_true h2.1
    exact ⟨this.2.1, this.2.2⟩

theorem MuxAt.below {w w' : World} {S T : Nat → Prop} {gm g : Nat} {x : Mx} {A : Option Addr} {c : Nat} (h : MuxAt w S T gm g x A c) (hb : Below w.heap.size w w') : MuxAt w' S T gm g x A c :=
  ⟨h.blk.after hb, h.reqs.grownT (grown_of_below hb none) h.hT (fun k hk => by cases hk), h.c1, h.c2, h.win.below hb, fun k hk => Nat.lt_of_lt_of_le (h.hT k hk) hb.size, h.nT, h.nS, h.dT⟩
theorem Mx.Fine.setAt {x : Mx} (h : x.Fine) {n : Int} (h0 : 0 ≤ n) (h1 : n ≤ 1099511627776) : (x.setAt n).Fine := ⟨h.t1, h.t2, h.l1, h.l2, h0, h1, h.may, h.tabs, h.win⟩
theorem cell_set3' {w : World} {b : Nat} {p : Addr} (h : p.block ≠ b) (a0 a1 a2 : Value) : (((w.setCell ⟨b, 0, none⟩ a0).setCell ⟨b, 1, none⟩ a1).setCell ⟨b, 2, none⟩ a2).cell? p = w.cell? p := cell_set3 h a0 a1 a2
/-- An item's list, behind the storing of the result. -/
theorem IsSl.outR {α : Type} {R : Rep α} {w w3 w4 : World} {RB : Nat} {A : Option Addr} {n : Nat} {l : List α} {a0 a1 a2 : Value} (h : IsSl R w4 (fun k => w3.heap.size ≤ k ∧ k < w4.heap.size) A n l) (hw : w.heap.size ≤ w3.heap.size) (hR : RB < w3.heap.size) : IsSl R (((w4.setCell ⟨RB, 0, none⟩ a0).setCell ⟨RB, 1, none⟩ a1).setCell ⟨RB, 2, none⟩ a2) (fun k => w.heap.size ≤ k ∧ k < (((w4.setCell ⟨RB, 0, none⟩ a0).setCell ⟨RB, 1, none⟩ a1).setCell ⟨RB, 2, none⟩ a2).heap.size) A n l :=
  (h.keep (fun p hp => cell_set3 (by have := hp.1; omega) _ _ _)).weak (fun k hk => ⟨Nat.le_trans hw hk.1, by simp; exact hk.2⟩)

set_option maxHeartbeats 16000000 in
theorem muxTake_any (S : Nat → Prop) (gm g : Nat) (x : Mx) (w : World) (hS : ∀ k, S k → k < w.heap.size) (h : MuxOwn w S gm g x) (hf : x.Fine) (t : Txn) (A : Option Addr) (n c : Nat) (A2 : Option Addr) (n2 c2 : Nat) (ht : IsSl chgRep w S A n t.changes) (hs : IsSl strRep w S A2 n2 t.signals) :
    Calls Try.prog 28 #[.pointer (some ⟨gm, 0, none⟩), txnV t A n c A2 n2 c2] w (TakePost w S gm g x t) := by
  unfold txnV
  have HTN := Lib.hid (show x.takeI t = x.takeI t from rfl)
  have HS := Lib.hid hS
  have HF := Lib.hid hf
  have HLC := Lib.hid ht.len
  have HLS := Lib.hid hs.len
  obtain ⟨tl, tk, tch, tsg, tm⟩ := t
  dsimp only at HLC HLS ht hs ⊢
  obtain ⟨TB, hTB⟩ : ∃ TB, TB = w.heap.size := ⟨_, rfl⟩
  obtain ⟨RB, hRB⟩ : ∃ RB, RB = w.heap.size + 1 := ⟨_, rfl⟩
  obtain ⟨W, hW⟩ : ∃ W, W = (w.alloc (.cells #[.int .i64 tl, .int .i64 tk, .slice A n c, .slice A2 n2 c2, .int .i64 tm] 68)).alloc (.cells #[.int .i64 0, .slice none 0 0, .slice none 0 0] 62) := ⟨_, rfl⟩
  have hb : Below w.heap.size w W := by rw [hW]; exact ((Below.refl _ _).alloc (Nat.le_refl _) _).alloc (by simp) _
  have hWs : W.heap.size = w.heap.size + 2 := by rw [hW]; simp
  have BT := Lib.hid (show Blk W TB [.int .i64 tl, .int .i64 tk, .slice A n c, .slice A2 n2 c2, .int .i64 tm] by rw [hW, hTB]; exact (Blk.new rfl rfl).alloc _)
  have BR := Lib.hid (show Blk W RB [.int .i64 0, .slice none 0 0, .slice none 0 0] by rw [hW, hRB]; exact Blk.new rfl (by simp))
  obtain ⟨S', hS'⟩ : ∃ S' : Nat → Prop, S' = fun k => S k ∨ (w.heap.size ≤ k ∧ k < W.heap.size) := ⟨_, rfl⟩
  have HSS := Lib.hid (show ∀ k, S k → S' k by rw [hS']; exact fun k hk => .inl hk)
  have HST := Lib.hid (show S' TB by rw [hS']; exact .inr (by omega))
  have HSR := Lib.hid (show S' RB by rw [hS']; exact .inr (by omega))
  have HSL := Lib.hid (show ∀ k, S' k → k < W.heap.size by rw [hS']; exact fun k hk => hk.elim (fun h => by have := hS k h; omega) (fun h => h.2))
  have hM : MuxOwn W S' gm g x := by rw [hS']; exact h.step hb
  obtain ⟨T, Am, cm, hm⟩ := hM
  have HM := Lib.hid hm
  have HW := Lib.hid hW
  have H1 := Lib.hid hTB
  have H2 := Lib.hid hRB
  have HB := Lib.hid hb
  have HC := Lib.hid (show IsSl chgRep W S' A n tch from (ht.keep (fun p hp => hb.cell (hS _ hp))).weak HSS.out)
  have HG := Lib.hid (show IsSl strRep W S' A2 n2 tsg from (hs.keep (fun p hp => hb.cell (hS _ hp))).weak HSS.out)
  have hRT : RB ≠ TB := by omega
  have hgW := hm.blk.lt
  have nRg : RB ≠ gm := fun e => hm.nS (e ▸ HSR.out)
  have nTg : TB ≠ gm := fun e => hm.nS (e ▸ HST.out)
  have nRg' : (RB = gm) = False := by simp; exact nRg
  have ngR' : (gm = RB) = False := by simp; exact fun e => nRg e.symm
  have nTg' : (TB = gm) = False := by simp; exact nTg
  have ngT' : (gm = TB) = False := by simp; exact fun e => nTg e.symm
  have nTR' : (TB = RB) = False := by simp; exact fun e => hRT e.symm
  have nRT' : (RB = TB) = False := by simp; exact hRT
  have nSR : ¬ S RB := fun hs => by have := hS RB hs; omega
  have HWs := Lib.hid hWs
  obtain ⟨t0, t1, t2, t3, t4, tz⟩ := BT.out.c5
  have hat : x.at_ ≤ 1099511627776 := hf.a2
  have hat0 : 0 ≤ x.at_ := hf.a1
  have hwr : IntKind.i64.wrap (x.at_ + 1) = x.at_ + 1 := IntWalk.i64_in _ (by omega)
  have HEND := Lib.hid (show ∀ q, TakePost w S gm g x ⟨tl, tk, tch, tsg, tm⟩ q = TakePost w S gm g x ⟨tl, tk, tch, tsg, tm⟩ q from fun _ => rfl)
  clear hWs hW hTB hRB hb hS' h hm hf ht hs hS HTN HEND

  cases hmay : mayTxn ⟨tl, tk, tch, tsg, tm⟩ with
  | false =>
    have HMAY := Lib.hid hmay
    have HH := Lib.hid (take_no (x := x) hmay)
    clear hmay

    go_enter Try.func28, Try.ntmps28
    go_wp2_with (first
      | (go_at_call 77; rw [← HW.out, ← H2.out, ← H1.out]; (with_reducible refine (txnMay_any ⟨tl, tk, tch, tsg, tm⟩ A n c A2 n2 c2 W (HC.out.weak HSL.out) (HG.out.weak HSL.out)).mono ?_); rintro e w1 ⟨rfl, bel1⟩; rw [HMAY.out]; have B1 := Lib.hid bel1; have M1 := Lib.hid (HM.out.below bel1); have BT1 := Lib.hid (BT.out.after bel1); have BR1 := Lib.hid (BR.out.after bel1); obtain ⟨t0, t1, t2, t3, t4, tz⟩ := BT1.out.c5; obtain ⟨r0, r1, r2, rz⟩ := BR1.out.c3; obtain ⟨g0, g1, g2, g3, g4, gz⟩ := M1.out.blk.c5; clear bel1)
      | fail)
    obtain ⟨W9, hW9⟩ : ∃ W9, W9 = (((w1.setCell ⟨RB, 0, none⟩ (.int .i64 0)).setCell ⟨RB, 1, none⟩ (.slice none 0 0)).setCell ⟨RB, 2, none⟩ (.slice none 0 0)) := ⟨_, rfl⟩
    have BR9 := Lib.hid (show Blk W9 RB [.int .i64 0, .slice none 0 0, .slice none 0 0] by rw [hW9]; exact (((BR1.out).put (j := 0) (by simp) _ rfl).put (j := 1) (by simp) _ rfl).put (j := 2) (by simp) _ rfl)
    have SM := (show MuxOwn W9 S gm g x by rw [hW9]; exact M1.out.out3 HSR.out HSS.out _ _ _)
    have SR := (show Rest S w W9 by rw [hW9]; exact ((Rest.refl S w).below HS.out (HB.out.trans (B1.out.mono HB.out.size))).set3 nSR _ _ _)
    rw [← hW9]
    clear hW9 r0 r1 r2 rz
    obtain ⟨r0, r1, r2, rz⟩ := BR9.out.c3
    refine bodyPost_ret (by simp [results, Try.results28, go_sem, r0, r1, r2]; try rfl) rfl ?_
    unfold TakePost
    rw [HH.out.1, HH.out.2.1, HH.out.2.2]
    exact ⟨none, 0, 0, none, 0, 0, rfl, IsSl.nil, IsSl.nil, SM, SR⟩

  | true =>
    have HMAY := Lib.hid hmay
    have HP := Lib.hid (mayTxn_lsn hmay)
    dsimp only at HP
    have hl1 : 1 ≤ tl := HP.out.1
    have hl2 : tl ≤ 1099511627776 := HP.out.2.1
    by_cases hlsn : tl = x.at_ + 1
    case neg =>
      have hne : (tl != x.at_ + 1) = true := by simpa using hlsn
      have HH := Lib.hid (take_bad (x := x) hmay (by unfold Mx.bad; rw [decide_eq_false hlsn]; rfl))
      clear hmay hlsn

      go_enter Try.func28, Try.ntmps28
      go_wp2_with (first
        | (go_at_call 77; rw [← HW.out, ← H2.out, ← H1.out]; (with_reducible refine (txnMay_any ⟨tl, tk, tch, tsg, tm⟩ A n c A2 n2 c2 W (HC.out.weak HSL.out) (HG.out.weak HSL.out)).mono ?_); rintro e w1 ⟨rfl, bel1⟩; rw [HMAY.out]; have B1 := Lib.hid bel1; have M1 := Lib.hid (HM.out.below bel1); have BT1 := Lib.hid (BT.out.after bel1); have BR1 := Lib.hid (BR.out.after bel1); obtain ⟨t0, t1, t2, t3, t4, tz⟩ := BT1.out.c5; obtain ⟨r0, r1, r2, rz⟩ := BR1.out.c3; obtain ⟨g0, g1, g2, g3, g4, gz⟩ := M1.out.blk.c5; clear bel1)
        | fail)
      go_quiet (fail)
      go_wp2
      obtain ⟨W9, hW9⟩ : ∃ W9, W9 = ((((w1.drewN nq).setCell ⟨RB, 0, none⟩ (.int .i64 0)).setCell ⟨RB, 1, none⟩ (.slice none 0 0)).setCell ⟨RB, 2, none⟩ (.slice none 0 0)) := ⟨_, rfl⟩
      have BR9 := Lib.hid (show Blk W9 RB [.int .i64 0, .slice none 0 0, .slice none 0 0] by rw [hW9]; exact (((BR1.out.drewN nq).put (j := 0) (by simp) _ rfl).put (j := 1) (by simp) _ rfl).put (j := 2) (by simp) _ rfl)
      have SM := (show MuxOwn W9 S gm g x by rw [hW9]; exact (M1.out.below (below_drewN (Below.refl _ _) nq)).out3 HSR.out HSS.out _ _ _)
      have SR := (show Rest S w W9 by rw [hW9]; exact ((Rest.refl S w).below HS.out (below_drewN (HB.out.trans (B1.out.mono HB.out.size)) nq)).set3 nSR _ _ _)
      rw [← hW9]
      clear hW9 r0 r1 r2 rz
      obtain ⟨r0, r1, r2, rz⟩ := BR9.out.c3
      refine bodyPost_ret (by simp [results, Try.results28, go_sem, r0, r1, r2]; try rfl) rfl ?_
      unfold TakePost
      rw [HH.out.1, HH.out.2.1, HH.out.2.2]
      exact ⟨none, 0, 0, none, 0, 0, rfl, IsSl.nil, IsSl.nil, SM, SR⟩

    case pos =>
      have hne : (tl != x.at_ + 1) = false := by simpa using hlsn
      cases hwt : x.win.waits tk tm with
      | true =>
        have HH := Lib.hid (take_bad (x := x) hmay (by unfold Mx.bad; dsimp only; rw [hwt, Bool.or_true]))
        have HWT := Lib.hid hwt
        clear hmay hlsn hwt

        go_enter Try.func28, Try.ntmps28
        go_wp2_with (first
          | (go_at_call 77; rw [← HW.out, ← H2.out, ← H1.out]; (with_reducible refine (txnMay_any ⟨tl, tk, tch, tsg, tm⟩ A n c A2 n2 c2 W (HC.out.weak HSL.out) (HG.out.weak HSL.out)).mono ?_); rintro e w1 ⟨rfl, bel1⟩; rw [HMAY.out]; have B1 := Lib.hid bel1; have M1 := Lib.hid (HM.out.below bel1); have BT1 := Lib.hid (BT.out.after bel1); have BR1 := Lib.hid (BR.out.after bel1); obtain ⟨t0, t1, t2, t3, t4, tz⟩ := BT1.out.c5; obtain ⟨r0, r1, r2, rz⟩ := BR1.out.c3; obtain ⟨g0, g1, g2, g3, g4, gz⟩ := M1.out.blk.c5; clear bel1)
          | fail)
        have HWN := Lib.hid (show WinOwn w1.drew (fun k => S' k ∨ T k ∨ k = gm) g x.win from M1.out.win.drew)
        have hT2 : TB < w1.drew.heap.size := BT1.out.lt
        have hG2 : gm < w1.drew.heap.size := M1.out.blk.lt
        go_region_held3 (fun w' => w'.cell? ⟨TB, 0, none⟩ = some (.int .i64 tl) ∧ w'.cell? ⟨TB, 1, none⟩ = some (.int .i64 tk) ∧ w'.cell? ⟨TB, 2, none⟩ = some (.slice A n c) ∧ w'.cell? ⟨TB, 3, none⟩ = some (.slice A2 n2 c2) ∧ w'.cell? ⟨TB, 4, none⟩ = some (.int .i64 tm) ∧ w'.cell? ⟨gm, 0, none⟩ = some (.pointer (some ⟨g, 0, none⟩)) ∧ w'.cell? ⟨gm, 3, none⟩ = some (.int .i64 x.at_)) (first | exact ⟨t0, t1, t2, t3, t4, g0, g3⟩ | exact ⟨(B2.out.cell hT2).trans t0, (B2.out.cell hT2).trans t1, (B2.out.cell hT2).trans t2, (B2.out.cell hT2).trans t3, (B2.out.cell hT2).trans t4, (B2.out.cell hG2).trans g0, (B2.out.cell hG2).trans g3⟩ | fail)
          (first
            | (go_at_call 45; (with_reducible refine (muxWaits_any (fun k => S' k ∨ T k ∨ k = gm) g x.win w1.drew HWN.out tl tk tm A n c A2 n2 c2).mono ?_); rintro e w2 ⟨rfl, bel2⟩; rw [HWT.out]; have B2 := Lib.hid bel2; clear bel2)
            | fail)
        have D2 := Lib.hid (show Below w1.heap.size w1 w2 from below_of_drew B2.out)
        have BW2 := Lib.hid (HB.out.trans ((B1.out.trans (D2.out.mono B1.out.size)).mono HB.out.size))
        have M2 := Lib.hid (M1.out.below D2.out)
        have BT2 := Lib.hid (BT1.out.after D2.out)
        have BR2 := Lib.hid (BR1.out.after D2.out)
        clear t0 t1 t2 t3 t4 tz r0 r1 r2 rz g0 g1 g2 g3 g4 gz
        obtain ⟨t0, t1, t2, t3, t4, tz⟩ := BT2.out.c5
        obtain ⟨r0, r1, r2, rz⟩ := BR2.out.c3
        obtain ⟨g0, g1, g2, g3, g4, gz⟩ := M2.out.blk.c5
        go_wp2
        obtain ⟨W9, hW9⟩ : ∃ W9, W9 = (((w2.setCell ⟨RB, 0, none⟩ (.int .i64 0)).setCell ⟨RB, 1, none⟩ (.slice none 0 0)).setCell ⟨RB, 2, none⟩ (.slice none 0 0)) := ⟨_, rfl⟩
        have BR9 := Lib.hid (show Blk W9 RB [.int .i64 0, .slice none 0 0, .slice none 0 0] by rw [hW9]; exact ((BR2.out.put (j := 0) (by simp) _ rfl).put (j := 1) (by simp) _ rfl).put (j := 2) (by simp) _ rfl)
        have SM := (show MuxOwn W9 S gm g x by rw [hW9]; exact M2.out.out3 HSR.out HSS.out _ _ _)
        have SR := (show Rest S w W9 by rw [hW9]; exact ((Rest.refl S w).below HS.out BW2.out).set3 nSR _ _ _)
        rw [← hW9]
        clear hW9 r0 r1 r2 rz
        obtain ⟨r0, r1, r2, rz⟩ := BR9.out.c3
        refine bodyPost_ret (by simp [results, Try.results28, go_sem, r0, r1, r2]; try rfl) rfl ?_
        unfold TakePost
        rw [HH.out.1, HH.out.2.1, HH.out.2.2]
        exact ⟨none, 0, 0, none, 0, 0, rfl, IsSl.nil, IsSl.nil, SM, SR⟩

      | false =>
        have HH := Lib.hid (take_ok (x := x) hmay (by unfold Mx.bad; dsimp only; rw [hwt, decide_eq_true hlsn]; rfl))
        have HWT := Lib.hid hwt
        have HFA := Lib.hid (HF.out.setAt (n := tl) (by omega) hl2)
        have hlI : I64 tl := by unfold I64; omega
        have HKK := Lib.hid HP.out.2.2.1
        have HNN := Lib.hid HP.out.2.2.2
        clear hmay hlsn hwt
        have HK3 := HKK.out
        by_cases hk1 : tk = 1
        case pos =>
          subst hk1
          have HHE := Lib.hid HH.out.1
          have HHI := Lib.hid (show x.takeI ⟨tl, 1, tch, tsg, tm⟩ = (x.setAt tl).cliI ⟨tl, 1, tch, tsg, tm⟩ from HH.out.2.1.trans (if_pos rfl))
          have HHM := Lib.hid (show x.takeM ⟨tl, 1, tch, tsg, tm⟩ = (x.setAt tl).cliM ⟨tl, 1, tch, tsg, tm⟩ from HH.out.2.2.trans (if_pos rfl))
          clear HH
          have hnn : n ≤ 1000 ∧ n2 ≤ 1000 := by have h1 := HNN.out rfl; have h2 := HLC.out; have h3 := HLS.out; omega
          have HNM := Lib.hid hnn
          clear HK3 hnn

          go_enter Try.func28, Try.ntmps28
          go_wp2_with (first
            | (go_at_call 77; rw [← HW.out, ← H2.out, ← H1.out]; (with_reducible refine (txnMay_any ⟨tl, 1, tch, tsg, tm⟩ A n c A2 n2 c2 W (HC.out.weak HSL.out) (HG.out.weak HSL.out)).mono ?_); rintro e w1 ⟨rfl, bel1⟩; rw [HMAY.out]; have B1 := Lib.hid bel1; have M1 := Lib.hid (HM.out.below bel1); have BT1 := Lib.hid (BT.out.after bel1); have BR1 := Lib.hid (BR.out.after bel1); obtain ⟨t0, t1, t2, t3, t4, tz⟩ := BT1.out.c5; obtain ⟨r0, r1, r2, rz⟩ := BR1.out.c3; obtain ⟨g0, g1, g2, g3, g4, gz⟩ := M1.out.blk.c5; clear bel1)
            | fail)
          have HWN := Lib.hid (show WinOwn w1.drew (fun k => S' k ∨ T k ∨ k = gm) g x.win from M1.out.win.drew)
          have hT2 : TB < w1.drew.heap.size := BT1.out.lt
          have hG2 : gm < w1.drew.heap.size := M1.out.blk.lt
          go_region_held3 (fun w' => w'.cell? ⟨TB, 0, none⟩ = some (.int .i64 tl) ∧ w'.cell? ⟨TB, 1, none⟩ = some (.int .i64 1) ∧ w'.cell? ⟨TB, 2, none⟩ = some (.slice A n c) ∧ w'.cell? ⟨TB, 3, none⟩ = some (.slice A2 n2 c2) ∧ w'.cell? ⟨TB, 4, none⟩ = some (.int .i64 tm) ∧ w'.cell? ⟨gm, 0, none⟩ = some (.pointer (some ⟨g, 0, none⟩)) ∧ w'.cell? ⟨gm, 3, none⟩ = some (.int .i64 x.at_)) (first | exact ⟨t0, t1, t2, t3, t4, g0, g3⟩ | exact ⟨(B2.out.cell hT2).trans t0, (B2.out.cell hT2).trans t1, (B2.out.cell hT2).trans t2, (B2.out.cell hT2).trans t3, (B2.out.cell hT2).trans t4, (B2.out.cell hG2).trans g0, (B2.out.cell hG2).trans g3⟩ | fail)
            (first
              | (go_at_call 45; (with_reducible refine (muxWaits_any (fun k => S' k ∨ T k ∨ k = gm) g x.win w1.drew HWN.out tl 1 tm A n c A2 n2 c2).mono ?_); rintro e w2 ⟨rfl, bel2⟩; rw [HWT.out]; have B2 := Lib.hid bel2; clear bel2)
              | fail)
          have D2 := Lib.hid (show Below w1.heap.size w1 w2 from below_of_drew B2.out)
          have BW2 := Lib.hid (HB.out.trans ((B1.out.trans (D2.out.mono B1.out.size)).mono HB.out.size))
          have M2 := Lib.hid (M1.out.below D2.out)
          have BT2 := Lib.hid (BT1.out.after D2.out)
          have BR2 := Lib.hid (BR1.out.after D2.out)
          clear t0 t1 t2 t3 t4 tz r0 r1 r2 rz g0 g1 g2 g3 g4 gz
          obtain ⟨t0, t1, t2, t3, t4, tz⟩ := BT2.out.c5
          obtain ⟨r0, r1, r2, rz⟩ := BR2.out.c3
          obtain ⟨g0, g1, g2, g3, g4, gz⟩ := M2.out.blk.c5
          go_wp2_with (first
            | (go_at_call 78; obtain ⟨w3, hw3⟩ : ∃ w3, w3 = w2.setCell ⟨gm, 3, none⟩ (.int .i64 tl) := ⟨_, rfl⟩; have M3 := Lib.hid (show MuxAt w3 S' T gm g (x.setAt tl) Am cm by rw [hw3]; exact M2.out.setAt tl); have R3 := Lib.hid (show Rest S' W w3 by rw [hw3]; exact ((Rest.refl S' W).below HSL.out (B1.out.trans (D2.out.mono B1.out.size))).set M2.out.nS 3 _); have hs3 := R3.out.size; have BR3 := Lib.hid (BR.out.rest R3.out HSR.out); have BT3 := Lib.hid (BT.out.rest R3.out HST.out); have HRS3 := Lib.hid (show Rest S w w3 from ((Rest.refl S w).below HS.out HB.out).trans (R3.out.less HSS.out)); have HSL3 := Lib.hid (show ∀ k, S' k → k < w3.heap.size from fun k hk => Nat.lt_of_lt_of_le (HSL.out k hk) hs3); have HC3 := Lib.hid (HC.out.rest R3.out (fun _ h => h)); have HG3 := Lib.hid (HG.out.rest R3.out (fun _ h => h)); have HO3 := Lib.hid (show MuxOwn w3 S' gm g (x.setAt tl) from ⟨T, Am, cm, M3.out⟩); rw [← hw3]; clear hw3; have KC := muxClient_any S' gm g (x.setAt tl) w3 HSL3.out HO3.out HFA.out ⟨tl, 1, tch, tsg, tm⟩ A n c A2 n2 c2 HC3.out HG3.out HNM.out.1 HNM.out.2 hlI; unfold txnV at KC; (with_reducible refine KC.mono ?_); clear KC; rintro e w4 ⟨A5, n5, c5, A6, n6, c6, rfl, s5, s6, m4, rest4⟩; have S5 := Lib.hid s5; have S6 := Lib.hid s6; have M4 := Lib.hid m4; have R4 := Lib.hid rest4; have BR4 := Lib.hid (BR3.out.rest rest4 HSR.out); obtain ⟨r0, r1, r2, rz⟩ := BR4.out.c3; clear s5 s6 m4 rest4)
            | fail)
          obtain ⟨W9, hW9⟩ : ∃ W9, W9 = (((w4.setCell ⟨RB, 0, none⟩ (.int .i64 ((x.setAt tl).cliI ⟨tl, 1, tch, tsg, tm⟩).lsn)).setCell ⟨RB, 1, none⟩ (.slice A5 n5 c5)).setCell ⟨RB, 2, none⟩ (.slice A6 n6 c6)) := ⟨_, rfl⟩
          have BR9 := Lib.hid (show Blk W9 RB [.int .i64 ((x.setAt tl).cliI ⟨tl, 1, tch, tsg, tm⟩).lsn, .slice A5 n5 c5, .slice A6 n6 c6] by rw [hW9]; exact ((BR4.out.put (j := 0) (by simp) _ rfl).put (j := 1) (by simp) _ rfl).put (j := 2) (by simp) _ rfl)
          have hwW := HB.out.size
          have hRW : RB < w3.heap.size := Nat.lt_of_lt_of_le BR.out.lt hs3
          have SO := (show IsSl oprRep W9 (fun k => w.heap.size ≤ k ∧ k < W9.heap.size) A5 n5 ((x.setAt tl).cliI ⟨tl, 1, tch, tsg, tm⟩).ops by rw [hW9]; exact S5.out.outR (Nat.le_trans hwW hs3) hRW)
          have SN := (show IsSl noteRep W9 (fun k => w.heap.size ≤ k ∧ k < W9.heap.size) A6 n6 ((x.setAt tl).cliI ⟨tl, 1, tch, tsg, tm⟩).notes by rw [hW9]; exact S6.out.outR (Nat.le_trans hwW hs3) hRW)
          have SM := (show MuxOwn W9 S gm g ((x.setAt tl).cliM ⟨tl, 1, tch, tsg, tm⟩) by rw [hW9]; exact (((M4.out.set HSR.out 0 _).set HSR.out 1 _).set HSR.out 2 _).sets (fun k hk => .inl (HSS.out k hk)))
          have SR := (show Rest S w W9 by rw [hW9]; exact (HRS3.out.trans (R4.out.less HSS.out)).set3 nSR _ _ _)
          rw [← hW9]
          clear hW9 r0 r1 r2 rz
          obtain ⟨r0, r1, r2, rz⟩ := BR9.out.c3
          refine bodyPost_ret (by simp [results, Try.results28, go_sem, r0, r1, r2]; try rfl) rfl ?_
          unfold TakePost
          rw [HHE.out, HHI.out, HHM.out]
          exact ⟨_, _, _, _, _, _, rfl, SO, SN, SM, SR⟩

        case neg =>
          by_cases hk3 : tk = 3
          case pos =>
            subst hk3
            have HHE := Lib.hid HH.out.1
            have HHI := Lib.hid (show x.takeI ⟨tl, 3, tch, tsg, tm⟩ = (x.setAt tl).highI ⟨tl, 3, tch, tsg, tm⟩ from HH.out.2.1.trans ((if_neg (show ¬ (3 : Int) = 1 by decide)).trans (if_pos rfl)))
            have HHM := Lib.hid (show x.takeM ⟨tl, 3, tch, tsg, tm⟩ = (x.setAt tl).highM ⟨tl, 3, tch, tsg, tm⟩ from HH.out.2.2.trans ((if_neg (show ¬ (3 : Int) = 1 by decide)).trans (if_pos rfl)))
            clear HH
            clear HK3

            go_enter Try.func28, Try.ntmps28
            go_wp2_with (first
              | (go_at_call 77; rw [← HW.out, ← H2.out, ← H1.out]; (with_reducible refine (txnMay_any ⟨tl, 3, tch, tsg, tm⟩ A n c A2 n2 c2 W (HC.out.weak HSL.out) (HG.out.weak HSL.out)).mono ?_); rintro e w1 ⟨rfl, bel1⟩; rw [HMAY.out]; have B1 := Lib.hid bel1; have M1 := Lib.hid (HM.out.below bel1); have BT1 := Lib.hid (BT.out.after bel1); have BR1 := Lib.hid (BR.out.after bel1); obtain ⟨t0, t1, t2, t3, t4, tz⟩ := BT1.out.c5; obtain ⟨r0, r1, r2, rz⟩ := BR1.out.c3; obtain ⟨g0, g1, g2, g3, g4, gz⟩ := M1.out.blk.c5; clear bel1)
              | fail)
            have HWN := Lib.hid (show WinOwn w1.drew (fun k => S' k ∨ T k ∨ k = gm) g x.win from M1.out.win.drew)
            have hT2 : TB < w1.drew.heap.size := BT1.out.lt
            have hG2 : gm < w1.drew.heap.size := M1.out.blk.lt
            go_region_held3 (fun w' => w'.cell? ⟨TB, 0, none⟩ = some (.int .i64 tl) ∧ w'.cell? ⟨TB, 1, none⟩ = some (.int .i64 3) ∧ w'.cell? ⟨TB, 2, none⟩ = some (.slice A n c) ∧ w'.cell? ⟨TB, 3, none⟩ = some (.slice A2 n2 c2) ∧ w'.cell? ⟨TB, 4, none⟩ = some (.int .i64 tm) ∧ w'.cell? ⟨gm, 0, none⟩ = some (.pointer (some ⟨g, 0, none⟩)) ∧ w'.cell? ⟨gm, 3, none⟩ = some (.int .i64 x.at_)) (first | exact ⟨t0, t1, t2, t3, t4, g0, g3⟩ | exact ⟨(B2.out.cell hT2).trans t0, (B2.out.cell hT2).trans t1, (B2.out.cell hT2).trans t2, (B2.out.cell hT2).trans t3, (B2.out.cell hT2).trans t4, (B2.out.cell hG2).trans g0, (B2.out.cell hG2).trans g3⟩ | fail)
              (first
                | (go_at_call 45; (with_reducible refine (muxWaits_any (fun k => S' k ∨ T k ∨ k = gm) g x.win w1.drew HWN.out tl 3 tm A n c A2 n2 c2).mono ?_); rintro e w2 ⟨rfl, bel2⟩; rw [HWT.out]; have B2 := Lib.hid bel2; clear bel2)
                | fail)
            have D2 := Lib.hid (show Below w1.heap.size w1 w2 from below_of_drew B2.out)
            have BW2 := Lib.hid (HB.out.trans ((B1.out.trans (D2.out.mono B1.out.size)).mono HB.out.size))
            have M2 := Lib.hid (M1.out.below D2.out)
            have BT2 := Lib.hid (BT1.out.after D2.out)
            have BR2 := Lib.hid (BR1.out.after D2.out)
            clear t0 t1 t2 t3 t4 tz r0 r1 r2 rz g0 g1 g2 g3 g4 gz
            obtain ⟨t0, t1, t2, t3, t4, tz⟩ := BT2.out.c5
            obtain ⟨r0, r1, r2, rz⟩ := BR2.out.c3
            obtain ⟨g0, g1, g2, g3, g4, gz⟩ := M2.out.blk.c5
            go_wp2_with (first
              | (go_at_call 79; obtain ⟨w3, hw3⟩ : ∃ w3, w3 = w2.setCell ⟨gm, 3, none⟩ (.int .i64 tl) := ⟨_, rfl⟩; have M3 := Lib.hid (show MuxAt w3 S' T gm g (x.setAt tl) Am cm by rw [hw3]; exact M2.out.setAt tl); have R3 := Lib.hid (show Rest S' W w3 by rw [hw3]; exact ((Rest.refl S' W).below HSL.out (B1.out.trans (D2.out.mono B1.out.size))).set M2.out.nS 3 _); have hs3 := R3.out.size; have BR3 := Lib.hid (BR.out.rest R3.out HSR.out); have BT3 := Lib.hid (BT.out.rest R3.out HST.out); have HRS3 := Lib.hid (show Rest S w w3 from ((Rest.refl S w).below HS.out HB.out).trans (R3.out.less HSS.out)); have HSL3 := Lib.hid (show ∀ k, S' k → k < w3.heap.size from fun k hk => Nat.lt_of_lt_of_le (HSL.out k hk) hs3); have HO3 := Lib.hid (show MuxOwn w3 S' gm g (x.setAt tl) from ⟨T, Am, cm, M3.out⟩); rw [← hw3]; clear hw3; have KC := muxHigh_any S' gm g (x.setAt tl) w3 HSL3.out HO3.out HFA.out ⟨tl, 3, tch, tsg, tm⟩ A n c A2 n2 c2; unfold txnV at KC; (with_reducible refine KC.mono ?_); clear KC; rintro e w4 ⟨A5, n5, c5, A6, n6, c6, rfl, s5, s6, m4, rest4⟩; have S5 := Lib.hid s5; have S6 := Lib.hid s6; have M4 := Lib.hid m4; have R4 := Lib.hid rest4; have BR4 := Lib.hid (BR3.out.rest rest4 HSR.out); obtain ⟨r0, r1, r2, rz⟩ := BR4.out.c3; clear s5 s6 m4 rest4)
              | fail)
            obtain ⟨W9, hW9⟩ : ∃ W9, W9 = (((w4.setCell ⟨RB, 0, none⟩ (.int .i64 ((x.setAt tl).highI ⟨tl, 3, tch, tsg, tm⟩).lsn)).setCell ⟨RB, 1, none⟩ (.slice A5 n5 c5)).setCell ⟨RB, 2, none⟩ (.slice A6 n6 c6)) := ⟨_, rfl⟩
            have BR9 := Lib.hid (show Blk W9 RB [.int .i64 ((x.setAt tl).highI ⟨tl, 3, tch, tsg, tm⟩).lsn, .slice A5 n5 c5, .slice A6 n6 c6] by rw [hW9]; exact ((BR4.out.put (j := 0) (by simp) _ rfl).put (j := 1) (by simp) _ rfl).put (j := 2) (by simp) _ rfl)
            have hwW := HB.out.size
            have hRW : RB < w3.heap.size := Nat.lt_of_lt_of_le BR.out.lt hs3
            have SO := (show IsSl oprRep W9 (fun k => w.heap.size ≤ k ∧ k < W9.heap.size) A5 n5 ((x.setAt tl).highI ⟨tl, 3, tch, tsg, tm⟩).ops by rw [hW9]; exact S5.out.outR (Nat.le_trans hwW hs3) hRW)
            have SN := (show IsSl noteRep W9 (fun k => w.heap.size ≤ k ∧ k < W9.heap.size) A6 n6 ((x.setAt tl).highI ⟨tl, 3, tch, tsg, tm⟩).notes by rw [hW9]; exact S6.out.outR (Nat.le_trans hwW hs3) hRW)
            have SM := (show MuxOwn W9 S gm g ((x.setAt tl).highM ⟨tl, 3, tch, tsg, tm⟩) by rw [hW9]; exact (((M4.out.set HSR.out 0 _).set HSR.out 1 _).set HSR.out 2 _).sets (fun k hk => .inl (HSS.out k hk)))
            have SR := (show Rest S w W9 by rw [hW9]; exact (HRS3.out.trans (R4.out.less HSS.out)).set3 nSR _ _ _)
            rw [← hW9]
            clear hW9 r0 r1 r2 rz
            obtain ⟨r0, r1, r2, rz⟩ := BR9.out.c3
            refine bodyPost_ret (by simp [results, Try.results28, go_sem, r0, r1, r2]; try rfl) rfl ?_
            unfold TakePost
            rw [HHE.out, HHI.out, HHM.out]
            exact ⟨_, _, _, _, _, _, rfl, SO, SN, SM, SR⟩

          case neg =>
            have hk2 : tk = 2 := by omega
            subst hk2
            have HHE := Lib.hid HH.out.1
            have HHI := Lib.hid (show x.takeI ⟨tl, 2, tch, tsg, tm⟩ = ⟨tl, [], []⟩ from HH.out.2.1.trans ((if_neg (show ¬ (2 : Int) = 1 by decide)).trans (if_neg (show ¬ (2 : Int) = 3 by decide))))
            have HHM := Lib.hid (show x.takeM ⟨tl, 2, tch, tsg, tm⟩ = (x.setAt tl).setWin (x.win.low tm) from HH.out.2.2.trans ((if_neg (show ¬ (2 : Int) = 1 by decide)).trans (if_neg (show ¬ (2 : Int) = 3 by decide))))
            clear HH
            clear HK3 hk3 hk1

            go_enter Try.func28, Try.ntmps28
            go_wp2_with (first
              | (go_at_call 77; rw [← HW.out, ← H2.out, ← H1.out]; (with_reducible refine (txnMay_any ⟨tl, 2, tch, tsg, tm⟩ A n c A2 n2 c2 W (HC.out.weak HSL.out) (HG.out.weak HSL.out)).mono ?_); rintro e w1 ⟨rfl, bel1⟩; rw [HMAY.out]; have B1 := Lib.hid bel1; have M1 := Lib.hid (HM.out.below bel1); have BT1 := Lib.hid (BT.out.after bel1); have BR1 := Lib.hid (BR.out.after bel1); obtain ⟨t0, t1, t2, t3, t4, tz⟩ := BT1.out.c5; obtain ⟨r0, r1, r2, rz⟩ := BR1.out.c3; obtain ⟨g0, g1, g2, g3, g4, gz⟩ := M1.out.blk.c5; clear bel1)
              | fail)
            have HWN := Lib.hid (show WinOwn w1.drew (fun k => S' k ∨ T k ∨ k = gm) g x.win from M1.out.win.drew)
            have hT2 : TB < w1.drew.heap.size := BT1.out.lt
            have hG2 : gm < w1.drew.heap.size := M1.out.blk.lt
            go_region_held3 (fun w' => w'.cell? ⟨TB, 0, none⟩ = some (.int .i64 tl) ∧ w'.cell? ⟨TB, 1, none⟩ = some (.int .i64 2) ∧ w'.cell? ⟨TB, 2, none⟩ = some (.slice A n c) ∧ w'.cell? ⟨TB, 3, none⟩ = some (.slice A2 n2 c2) ∧ w'.cell? ⟨TB, 4, none⟩ = some (.int .i64 tm) ∧ w'.cell? ⟨gm, 0, none⟩ = some (.pointer (some ⟨g, 0, none⟩)) ∧ w'.cell? ⟨gm, 3, none⟩ = some (.int .i64 x.at_)) (first | exact ⟨t0, t1, t2, t3, t4, g0, g3⟩ | exact ⟨(B2.out.cell hT2).trans t0, (B2.out.cell hT2).trans t1, (B2.out.cell hT2).trans t2, (B2.out.cell hT2).trans t3, (B2.out.cell hT2).trans t4, (B2.out.cell hG2).trans g0, (B2.out.cell hG2).trans g3⟩ | fail)
              (first
                | (go_at_call 45; (with_reducible refine (muxWaits_any (fun k => S' k ∨ T k ∨ k = gm) g x.win w1.drew HWN.out tl 2 tm A n c A2 n2 c2).mono ?_); rintro e w2 ⟨rfl, bel2⟩; rw [HWT.out]; have B2 := Lib.hid bel2; clear bel2)
                | fail)
            have D2 := Lib.hid (show Below w1.heap.size w1 w2 from below_of_drew B2.out)
            have BW2 := Lib.hid (HB.out.trans ((B1.out.trans (D2.out.mono B1.out.size)).mono HB.out.size))
            have M2 := Lib.hid (M1.out.below D2.out)
            have BT2 := Lib.hid (BT1.out.after D2.out)
            have BR2 := Lib.hid (BR1.out.after D2.out)
            clear t0 t1 t2 t3 t4 tz r0 r1 r2 rz g0 g1 g2 g3 g4 gz
            obtain ⟨t0, t1, t2, t3, t4, tz⟩ := BT2.out.c5
            obtain ⟨r0, r1, r2, rz⟩ := BR2.out.c3
            obtain ⟨g0, g1, g2, g3, g4, gz⟩ := M2.out.blk.c5
            go_wp2_with fail
            obtain ⟨w3, hw3⟩ : ∃ w3, w3 = w2.setCell ⟨gm, 3, none⟩ (.int .i64 tl) := ⟨_, rfl⟩
            have M3 := Lib.hid (show MuxAt w3 S' T gm g (x.setAt tl) Am cm by rw [hw3]; exact M2.out.setAt tl)
            have R3 := Lib.hid (show Rest S' W w3 by rw [hw3]; exact ((Rest.refl S' W).below HSL.out (B1.out.trans (D2.out.mono B1.out.size))).set M2.out.nS 3 _)
            have hs3 := R3.out.size
            have BR3 := Lib.hid (BR.out.rest R3.out HSR.out)
            have BT3 := Lib.hid (BT.out.rest R3.out HST.out)
            have HRS3 := Lib.hid (show Rest S w w3 from ((Rest.refl S w).below HS.out HB.out).trans (R3.out.less HSS.out))
            have HSL3 := Lib.hid (show ∀ k, S' k → k < w3.heap.size from fun k hk => Nat.lt_of_lt_of_le (HSL.out k hk) hs3)
            rw [← hw3]
            clear hw3 t0 t1 t2 t3 t4 tz r0 r1 r2 rz g0 g1 g2 g3 g4 gz
            obtain ⟨t0, t1, t2, t3, t4, tz⟩ := BT3.out.c5
            obtain ⟨g0, g1, g2, g3, g4, gz⟩ := M3.out.blk.c5
            have HWN3 := Lib.hid (show WinOwn w3.drew (fun k => S' k ∨ T k ∨ k = gm) g x.win from M3.out.win.drew)
            go_region_held3 (fun w' => w'.cell? ⟨gm, 0, none⟩ = some (.pointer (some ⟨g, 0, none⟩)) ∧ w'.cell? ⟨TB, 4, none⟩ = some (.int .i64 tm)) (first | exact ⟨g0, t4⟩ | exact ⟨(R4.out.cell (p := ⟨gm, 0, none⟩) (.inr (.inr rfl))).trans g0, (R4.out.cell (p := ⟨TB, 4, none⟩) (.inl HST.out)).trans t4⟩ | fail)
              (first
                | (go_at_call 80; (with_reducible refine (winlow_any g (fun k => S' k ∨ T k ∨ k = gm) x.win tm w3.drew HWN3.out).mono ?_); rintro e w4 ⟨rfl, o4, r4⟩; have O4 := Lib.hid o4; have R4 := Lib.hid r4; clear o4 r4)
                | fail)
            have R4' := Lib.hid (show Rest (fun k => S' k ∨ T k ∨ k = gm) w3 w4 from ⟨R4.out.os, R4.out.tape, R4.out.output, R4.out.size, R4.out.block⟩)
            have M4 := Lib.hid (M3.out.newWin (z := x.win.low tm) O4.out R4'.out)
            have BR4 := Lib.hid (BR3.out.rest R4'.out (.inl HSR.out))
            have BT4 := Lib.hid (BT3.out.rest R4'.out (.inl HST.out))
            clear t0 t1 t2 t3 t4 tz g0 g1 g2 g3 g4 gz
            obtain ⟨t0, t1, t2, t3, t4, tz⟩ := BT4.out.c5
            obtain ⟨r0, r1, r2, rz⟩ := BR4.out.c3
            go_wp2
            obtain ⟨W9, hW9⟩ : ∃ W9, W9 = (((w4.setCell ⟨RB, 0, none⟩ (.int .i64 tl)).setCell ⟨RB, 1, none⟩ (.slice none 0 0)).setCell ⟨RB, 2, none⟩ (.slice none 0 0)) := ⟨_, rfl⟩
            have BR9 := Lib.hid (show Blk W9 RB [.int .i64 tl, .slice none 0 0, .slice none 0 0] by rw [hW9]; exact ((BR4.out.put (j := 0) (by simp) _ rfl).put (j := 1) (by simp) _ rfl).put (j := 2) (by simp) _ rfl)
            have SM := (show MuxOwn W9 S gm g ((x.setAt tl).setWin (x.win.low tm)) by rw [hW9]; exact M4.out.out3 HSR.out HSS.out _ _ _)
            have SR := (show Rest S w W9 by rw [hW9]; exact (HRS3.out.trans (R4'.out.less (fun k hk => .inl (HSS.out k hk)))).set3 nSR _ _ _)
            rw [← hW9]
            clear hW9 r0 r1 r2 rz
            obtain ⟨r0, r1, r2, rz⟩ := BR9.out.c3
            refine bodyPost_ret (by simp [results, Try.results28, go_sem, r0, r1, r2]; try rfl) rfl ?_
            unfold TakePost
            rw [HHE.out, HHI.out, HHM.out]
            exact ⟨none, 0, 0, none, 0, 0, rfl, IsSl.nil, IsSl.nil, SM, SR⟩

end Go.Proofs.Ythhpddiicnjmmaa

set_option linter.unusedVariables false
set_option linter.unusedSimpArgs false
namespace Go.Proofs.Ythhpddiicnjmmaa
open Go.RowKit

theorem fine_new {tables late chunk lsn : Int} {l : List Req} (h : newOk tables late chunk lsn l = true) : (mx0 tables late chunk lsn l).Fine := by
  unfold newOk at h
  rw [Bool.and_eq_true] at h
  have h1 := of_decide_eq_true h.1
  have h2 := h.2
  unfold mayMx at h2
  rw [Bool.and_eq_true, List.all_eq_true] at h2
  refine ⟨h1.1, h1.2.1, h1.2.2.1, h1.2.2.2.1, h1.2.2.2.2.1, h1.2.2.2.2.2.1, h2.2, fun r hr => (of_decide_eq_true (h2.1 r hr)).1, ⟨h1.2.2.2.2.2.2.1, h1.2.2.2.2.2.2.2, ?_, ?_, ?_, ?_⟩⟩
  · show ((0 : Nat) : Int) ≤ chunk; omega
  · show I64 0; unfold I64; omega
  · show I64 0; unfold I64; omega
  · show I64 0; unfold I64; omega
theorem Win.Fine.see {x : Win} (h : x.Fine) (l : List Chg) : (x.see l).Fine := by
  unfold Win.see
  split
  · refine ⟨h.n1, h.n2, ?_, h.id, h.table, h.cursor⟩
    have h1 := seeL_len x.table l x.rows
    have h2 := h.rows
    show ((seeL x.table l x.rows).length : Int) ≤ x.n
    omega
  · exact h
theorem Win.Fine.low {x : Win} (h : x.Fine) (m : Int) : (x.low m).Fine := by
  unfold Win.low
  split
  · exact ⟨h.n1, h.n2, h.rows, h.id, h.table, h.cursor⟩
  · exact h
theorem fine_win0 {n : Int} (h1 : 1 ≤ n) (h2 : n ≤ 64) : (win0 n).Fine := ⟨h1, h2, by show ((0 : Nat) : Int) ≤ n; omega, by show I64 0; unfold I64; omega, by show I64 0; unfold I64; omega, by show I64 0; unfold I64; omega⟩
theorem Win.Fine.told {x : Win} (h : x.Fine) (m lsn : Int) : (x.told m lsn).Fine := by
  unfold Win.told
  split
  · exact fine_win0 h.n1 h.n2
  · exact h
theorem Mx.Fine.setWin {x : Mx} (h : x.Fine) {y : Win} (hy : y.Fine) : (x.setWin y).Fine := ⟨h.t1, h.t2, h.l1, h.l2, h.a1, h.a2, h.may, h.tabs, hy⟩
theorem placed_mem {l : List Req} {id : Int} {r : Req} (h : placed l id = some r) : r ∈ l := by
  have := (placed_some h).2.2.1
  exact List.mem_of_getElem? this
theorem Mx.Fine.chunk {x : Mx} (h : x.Fine) {id cursor : Int} {done : Bool} {M : List Req} (hc : chunkO x.reqs id cursor done = some M) : (x.setReqs M).Fine := by
  refine ⟨h.t1, h.t2, h.l1, h.l2, h.a1, h.a2, chunk_may hc, ?_, h.win⟩
  unfold chunkO at hc
  cases hp : placed x.reqs id with
  | none => rw [hp] at hc; cases hc
  | some r =>
    rw [hp] at hc
    dsimp only at hc
    split at hc
    · obtain rfl := Option.some.inj hc
      intro q hq
      rcases List.mem_or_eq_of_mem_set hq with h1 | h1
      · exact h.tabs q h1
      · rw [h1]; exact h.tabs r (placed_mem hp)
    · cases hc
theorem Mx.Fine.take {x : Mx} (h : x.Fine) (t : Txn) : (x.takeM t).Fine := by
  cases hm : mayTxn t with
  | false => rw [(take_no hm).2.2]; exact h
  | true =>
    cases hb : x.bad t with
    | true => rw [(take_bad hm hb).2.2]; exact h
    | false =>
      rw [(take_ok hm hb).2.2]
      obtain ⟨h1, h2, _, _⟩ := mayTxn_lsn hm
      have hs := h.setAt (n := t.lsn) (by omega) h2
      split
      · exact (hs.accs t.lsn t.signals).setWin ((hs.accs t.lsn t.signals).win.see t.changes)
      · split
        · unfold Mx.highM
          refine Mx.Fine.setWin ?_ (hs.win.told t.mark t.lsn)
          split
          · rename_i l hl
            unfold Mx.highO at hl
            split at hl
            · exact hs.chunk hl
            · cases hl
          · exact hs
        · exact hs.setWin (h.win.low t.mark)
end Go.Proofs.Ythhpddiicnjmmaa

set_option linter.unusedVariables false
set_option linter.unusedSimpArgs false
set_option maxRecDepth 100000
namespace Go.Proofs.Ythhpddiicnjmmaa
open Go.RowKit

def strA27 : ByteArray := ⟨#[97]⟩
def mxA : Mx := mx0 1 0 4 0 []
def txnA : Txn := ⟨1, 1, [⟨0, 5, false, ⟨#[97]⟩⟩], [], 0⟩
def mxB : Mx := ⟨1, 0, 1, [], win0 4⟩
theorem mxA_ok : newOk 1 0 4 0 [] = true ∧ newOk 1 2 4 0 [] = false := by decide
theorem mxA_take : mxA.takeE txnA = 0 ∧ mxA.takeI txnA = ⟨1, [⟨1, 0, 5, false, ⟨#[97]⟩⟩], []⟩ ∧ mxA.takeM txnA = mxB ∧ mxB.capt 0 = true ∧ mxB.capt 1 = false := by
  have e : mxA.takeE txnA = 0 := by decide
  refine ⟨e, ?_, ?_, by decide, by decide⟩
  · unfold Mx.takeI; rw [if_pos e]; rfl
  · unfold Mx.takeM; rw [if_pos e]; rfl

theorem chgA_wf : (⟨0, 5, false, ⟨#[97]⟩⟩ : Chg).wf := ⟨i64_small 0 (by omega) (by omega), i64_small 5 (by omega) (by omega), by decide⟩

set_option maxHeartbeats 8000000 in
theorem awake27_any (w : World) :
    Calls Try.prog 36 #[] w fun e w' => e = .returned (.bool true) ∧ Below w.heap.size w w' := by
  have HT := Lib.hid mxA_take
  have HFB := Lib.hid (show mxB.Fine by have := (fine_new mxA_ok.1).take txnA; have e := mxA_take.2.2.1; unfold mxA at e; rw [e] at this; exact this)
  have HFA := Lib.hid (show mxA.Fine from fine_new mxA_ok.1)
  have HT1 := Lib.hid (show mxA.takeE ⟨1, 1, [⟨0, 5, false, ⟨#[97]⟩⟩], [], 0⟩ = 0 from mxA_take.1)
  have HT2 := Lib.hid (show mxA.takeI ⟨1, 1, [⟨0, 5, false, ⟨#[97]⟩⟩], [], 0⟩ = ⟨1, [⟨1, 0, 5, false, ⟨#[97]⟩⟩], []⟩ from mxA_take.2.1)
  have HT3 := Lib.hid (show mxA.takeM ⟨1, 1, [⟨0, 5, false, ⟨#[97]⟩⟩], [], 0⟩ = mxB from mxA_take.2.2.1)
  have HTA := Lib.hid (show mxB.at_ = 1 from rfl)
  have HC0 := Lib.hid mxA_take.2.2.2.1
  have HC1 := Lib.hid mxA_take.2.2.2.2
  go_enter Try.func36, Try.ntmps36
  go_wp2_with (first
    | (go_at_call 25; (with_reducible refine (muxNew_any 1 0 4 0 none 0 0 [] w IsSl.nil (by omega)).mono ?_); rintro e w1 hp1; rcases hp1 with ⟨_, gm, g, rfl, m1, bel1⟩ | ⟨h0, _⟩; rotate_left 1; (exact absurd mxA_ok.1 (by rw [h0]; decide)); have M1 := Lib.hid m1; have B1 := Lib.hid bel1; clear m1 bel1)
    | (go_at_call 25; (with_reducible refine (muxNew_any 1 2 4 0 none 0 0 [] w1 IsSl.nil (by omega)).mono ?_); rintro e w2 hp2; rcases hp2 with ⟨h0, _⟩ | ⟨_, rfl, bel2⟩; (exact absurd mxA_ok.2 (by rw [h0]; decide)); have M2 := Lib.hid (M1.out.below bel2); have B2 := Lib.hid (bel_n B1.out bel2); obtain ⟨T, A, c, hblk, _, _, _, _⟩ := (M1.out.below bel2).cells; obtain ⟨c0, c1, c2, c3, c4, cz⟩ := hblk.c5; clear bel2 hblk)
    | (go_at_call 90; (with_reducible refine (muxWindow_any g w2).mono ?_); rintro e w3 ⟨rfl, bel3⟩; have M3 := Lib.hid (M2.out.below bel3); have B3 := Lib.hid (bel_n B2.out bel3); clear bel3 c0 c1 c2 c3 c4 cz)
    | (go_at_call 28; obtain ⟨W4, hW4⟩ : ∃ W4, W4 = w3.alloc (.cells #[.int .i64 0, .int .i64 5, .bool false, .string ⟨#[97]⟩] 162) := ⟨_, rfl⟩; have hb4 : Below w3.heap.size w3 W4 := (by rw [hW4]; exact (Below.refl _ _).alloc (Nat.le_refl _) _); have hs4 : W4.heap.size = w3.heap.size + 1 := (by rw [hW4]; simp); have HBL := Lib.hid (show IsSl chgRep W4 (fun k => k < w.heap.size ∨ (w3.heap.size ≤ k ∧ k < W4.heap.size)) (some ⟨w3.heap.size, 0, none⟩) 1 [⟨0, 5, false, ⟨#[97]⟩⟩] from IsSl.ofBlk1 (by rw [hW4]; exact Blk.new rfl rfl) ⟨rfl, chgA_wf⟩ (.inr ⟨Nat.le_refl _, by omega⟩)); have B4 := Lib.hid (bel_n B3.out hb4); have KC := muxTake_any (fun k => k < w.heap.size ∨ (w3.heap.size ≤ k ∧ k < W4.heap.size)) gm g mxA W4 (fun k hk => hk.elim (fun h => Nat.lt_of_lt_of_le h B4.out.size) (fun h => h.2)) (M3.out.step hb4) HFA.out txnA (some ⟨w3.heap.size, 0, none⟩) 1 1 none 0 0 HBL.out IsSl.nil; unfold txnV txnA at KC; rw [← hW4]; clear hW4 hb4 hs4; (with_reducible refine KC.mono ?_); clear KC; rintro e w5 ⟨A5, n5, c5, A6, n6, c6, rfl, s5, s6, m5, r5⟩; rw [HT1.out]; rw [HT2.out] at s5 ⊢; rw [HT3.out] at m5; obtain rfl : n5 = 1 := s5.len; obtain ⟨b5, o5, op5, q5, rfl, hb5, hx5, ⟨rfl, _⟩, hc5⟩ := s5.at_ (k := 0) (by omega); obtain rfl := (Option.some.inj hx5).symm; have M5 := Lib.hid m5; have hlt5 : b5 < w5.heap.size := hb5.2; have HAL := Lib.hid (show ∀ o : Obj, Below w5.heap.size w5 (w5.alloc o) from fun o => (Below.refl _ _).alloc (Nat.le_refl _) o); have k0 : ∀ o, (w5.alloc o).cell? ⟨b5, o5, none⟩ = some (.int .i64 1) := fun o => ((HAL.out o).cell (p := ⟨b5, o5, none⟩) hlt5).trans (by simpa using hc5 0 _ rfl); have k1 : ∀ o, (w5.alloc o).cell? ⟨b5, o5 + 1, none⟩ = some (.int .i64 0) := fun o => ((HAL.out o).cell (p := ⟨b5, o5 + 1, none⟩) hlt5).trans (by simpa using hc5 1 _ rfl); have k2 : ∀ o, (w5.alloc o).cell? ⟨b5, o5 + 2, none⟩ = some (.int .i64 5) := fun o => ((HAL.out o).cell (p := ⟨b5, o5 + 2, none⟩) hlt5).trans (by simpa using hc5 2 _ rfl); have k3 : ∀ o, (w5.alloc o).cell? ⟨b5, o5 + 3, none⟩ = some (.bool false) := fun o => ((HAL.out o).cell (p := ⟨b5, o5 + 3, none⟩) hlt5).trans (by simpa using hc5 3 _ rfl); have k4 : ∀ o, (w5.alloc o).cell? ⟨b5, o5 + 4, none⟩ = some (.string ⟨#[97]⟩) := fun o => ((HAL.out o).cell (p := ⟨b5, o5 + 4, none⟩) hlt5).trans (by simpa using hc5 4 _ rfl); have B5 := Lib.hid (B4.out.trans (r5.toBelow (B := w.heap.size) (fun k hk => .inl hk))); clear s5 s6 m5 hx5 hc5)
    | (go_at_call 29; (with_reducible refine (muxAt_any _ gm g mxB _ (M5.out.alloc _)).mono ?_); rintro e w' ⟨rfl, rfl⟩; rw [HTA.out])
    | (go_at_call 30; (with_reducible refine (muxCapt_any _ gm g mxB _ (M5.out.alloc _) HFB.out 0 (by unfold I64; omega)).mono ?_); rintro e w7 ⟨rfl, bel7⟩; rw [HC0.out]; have M7 := Lib.hid ((M5.out.alloc _).below bel7); have B7 := Lib.hid ((B5.out.alloc B5.out.size _).trans (bel7.mono (by have := B5.out.size; simp; omega))); clear bel7)
    | (go_at_call 30; (with_reducible refine (muxCapt_any _ gm g mxB w7 M7.out HFB.out 1 (by unfold I64; omega)).mono ?_); rintro e w8 ⟨rfl, bel8⟩; rw [HC1.out]; have B8 := Lib.hid (bel_n B7.out bel8); clear bel8)
    | fail)
  go_ret
  exact ⟨rfl, B8.out⟩
end Go.Proofs.Ythhpddiicnjmmaa
