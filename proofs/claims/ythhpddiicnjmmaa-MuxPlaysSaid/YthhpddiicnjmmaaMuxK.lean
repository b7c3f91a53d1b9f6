/- Do a mux and the reference's stand alike? Contract of alike of law 27. -/
import Derived.Test.YthhpddiicnjmmaaRefM
import Derived.Test.YthhpddiicnjmmaaMuxD
import Derived.Test.YthhpddiicnjmmaaHelpReq
import Derived.Test.YthhpddiicnjmmaaHelpRow
import Derived.Deep.RegionHeld3
import Derived.Deep.QuietTactic
import Derived.BigQuiet
set_option linter.unusedVariables false
set_option linter.unusedSimpArgs false
set_option maxRecDepth 100000
namespace Go.Proofs.Ythhpddiicnjmmaa
open Go.RowKit

theorem RefMx.at_ {w : World} {T : Nat → Prop} {gx gw : Nat} {x : Mx} (h : RefMx w T gx gw x) : ∃ A c A2 c2, Blk w gx [.int .i64 x.tables, .int .i64 x.late, .int .i64 x.at_, .slice A x.reqs.length c, .pointer (some ⟨gw, 0, none⟩)] ∧ Blk w gw [.int .i64 x.win.n, .int .i64 x.win.state, .int .i64 x.win.id, .int .i64 x.win.table, .int .i64 x.win.mark, .int .i64 x.win.after, .int .i64 x.win.cursor, .bool x.win.last, .slice A2 x.win.rows.length c2] ∧ IsSl reqRep w (· < w.heap.size) A x.reqs.length x.reqs ∧ IsSl rowRep w (· < w.heap.size) A2 x.win.rows.length x.win.rows := by
  obtain ⟨A, c, h⟩ := h
  obtain ⟨A2, c2, h2⟩ := h.win
  exact ⟨A, c, A2, c2, h.blk, h2.blk, h.reqs.weak h.hT, h2.rows.weak h2.hT⟩

/-- What is held of the reference's blocks while both are read. -/
def Held27 (w : World) (gx gw : Nat) (x : Mx) (A A2 : Option Addr) (c c2 : Nat) : Prop :=
  w.cell? ⟨gx, 2, none⟩ = some (.int .i64 x.at_) ∧ w.cell? ⟨gx, 3, none⟩ = some (.slice A x.reqs.length c) ∧ w.cell? ⟨gx, 4, none⟩ = some (.pointer (some ⟨gw, 0, none⟩)) ∧ w.cell? ⟨gw, 1, none⟩ = some (.int .i64 x.win.state) ∧ w.cell? ⟨gw, 8, none⟩ = some (.slice A2 x.win.rows.length c2)

set_option maxHeartbeats 16000000 in
theorem alike27_any (S T : Nat → Prop) (gm g gx gw : Nat) (x : Mx) (w : World) (h : MuxOwn w S gm g x) (r : RefMx w T gx gw x) (hf : x.Fine) :
    Calls Try.prog 42 #[.pointer (some ⟨gm, 0, none⟩), .pointer (some ⟨gx, 0, none⟩)] w fun e w' => e = .returned (.bool true) ∧ Below w.heap.size w w' := by
  obtain ⟨A, c, A2, c2, hb, hb2, hsl, hsl2⟩ := r.at_
  obtain ⟨Tm, Am, cm, hm⟩ := h
  obtain ⟨m0, m1, m2, m3, m4, mz⟩ := hm.blk.c5
  have HO := Lib.hid (show MuxOwn w S gm g x from ⟨Tm, Am, cm, hm⟩)
  have HR := Lib.hid r
  have HF := Lib.hid hf
  have HW := Lib.hid hm.win
  have HQ := Lib.hid hsl
  have HP := Lib.hid hsl2
  have HB := Lib.hid hb
  have HB2 := Lib.hid hb2
  obtain ⟨k0, k1, k2, k3, k4, kz⟩ := hb.c5
  have t1 := hf.t1
  have t2 := hf.t2
  have hq64 : x.reqs.length ≤ 64 := may_len hf.may
  have hr64 : x.win.rows.length ≤ 64 := by have := hf.win.rows; have := hf.win.n2; omega
  obtain ⟨nq, hnq⟩ : ∃ nq, nq = x.reqs.length := ⟨_, rfl⟩
  obtain ⟨nr, hnr⟩ : ∃ nr, nr = x.win.rows.length := ⟨_, rfl⟩
  have HNQ := Lib.hid hnq
  have HNR := Lib.hid hnr
  have hn1 : nq ≤ 64 := by omega
  have hn2 : nr ≤ 64 := by omega
  rw [← hnq] at HQ
  rw [← hnr] at HP
  obtain ⟨tn, htn⟩ := Int.eq_ofNat_of_zero_le (show 0 ≤ x.tables by omega)
  have htl : tn ≤ 8 := by omega
  have HTN := Lib.hid htn
  clear r hf hm hsl hsl2 hb hb2 m1 m2 m3 m4 mz k1 k2 k3 k4 kz hnq hnr htn t1 t2
  go_enter Try.func42, Try.ntmps42
  go_upto_region 2 with (first
    | (go_at_call 90; (with_reducible refine (muxWindow_any g w).mono ?_); rintro e w1 ⟨rfl, bel1⟩; have B1 := Lib.hid bel1; clear bel1)
    | fail)
  have BD := Lib.hid (show Below w.heap.size w w1.drew from below_drewN B1.out 1)
  have OD := Lib.hid (HO.out.below BD.out)
  have WD := Lib.hid (HW.out.below BD.out)
  have BS := Lib.hid BD.out.size
  have RD := Lib.hid (HR.out.below BD.out)
  have HK1 := Lib.hid (show Held27 w1.drew gx gw x A A2 c c2 from ⟨(HB.out.after BD.out).1 2 _ rfl, (HB.out.after BD.out).1 3 _ rfl, (HB.out.after BD.out).1 4 _ rfl, (HB2.out.after BD.out).1 1 _ rfl, (HB2.out.after BD.out).1 8 _ rfl⟩)
  have HKF := Lib.hid (show ∀ w', Below w.heap.size w w' → Held27 w' gx gw x A A2 c c2 from fun w' b => ⟨(HB.out.after b).1 2 _ rfl, (HB.out.after b).1 3 _ rfl, (HB.out.after b).1 4 _ rfl, (HB2.out.after b).1 1 _ rfl, (HB2.out.after b).1 8 _ rfl⟩)
  unfold Held27 at HK1 HKF
  rw [← HNQ.out, ← HNR.out] at HK1 HKF
  have HA := Lib.hid HK1.out
  obtain ⟨a0, a1, a2, a3, a4⟩ := HA.out
  go_region_held3 (fun w' => w'.cell? ⟨gx, 2, none⟩ = some (.int .i64 x.at_) ∧ w'.cell? ⟨gx, 3, none⟩ = some (.slice A nq c) ∧ w'.cell? ⟨gx, 4, none⟩ = some (.pointer (some ⟨gw, 0, none⟩)) ∧ w'.cell? ⟨gw, 1, none⟩ = some (.int .i64 x.win.state) ∧ w'.cell? ⟨gw, 8, none⟩ = some (.slice A2 nr c2)) (first | exact ⟨a0, a1, a2, a3, a4⟩ | exact HKF.out _ B6.out | exact HKF.out _ B5.out | exact HKF.out _ B4.out | exact HKF.out _ B3.out | fail)
    (first
    | (go_at_call 29; (with_reducible refine (muxAt_any S gm g x _ OD.out).mono ?_); rintro e w' ⟨rfl, rfl⟩)
    | (go_at_call 40; (with_reducible refine (muxReqs_any S gm g x _ OD.out hq64).mono ?_); rintro e w3 ⟨A3, c3, rfl, sl3, bel3⟩; rw [← HNQ.out] at sl3 ⊢; have B3 := Lib.hid (bel_n BD.out bel3); have SL3 := Lib.hid (sl3.weak (S' := (· < w3.heap.size)) (fun k hk => hk.2)); clear sl3 bel3)
    | (go_at_call 39; (with_reducible refine (plain_req A3 A nq nq c3 c x.reqs _ SL3.out (HQ.out.af B3.out) (by omega)).mono ?_); rintro e w4 ⟨rfl, bel4⟩; have B4 := Lib.hid (bel_n B3.out bel4); clear bel4)
    | (go_at_call 95; (with_reducible refine (winState_any g _ x.win _ (HW.out.below B4.out)).mono ?_); rintro e w' ⟨rfl, rfl⟩)
    | (go_at_call 96; (with_reducible refine (winRows_any g _ x.win _ (HW.out.below B4.out) (by omega)).mono ?_); rintro e w5 ⟨v5, rfl, own5, bel5⟩; obtain ⟨A5, c5, rfl, _, _, sl5⟩ := own5.isSlR; rw [← HNR.out] at sl5 ⊢; have B5 := Lib.hid (bel_n B4.out bel5); have SL5 := Lib.hid (sl5.weak (S' := (· < w5.heap.size)) (fun k hk => hk.2)); clear own5 sl5 bel5)
    | (go_at_call 33; (with_reducible refine (plain_row A5 A2 nr nr c5 c2 x.win.rows _ SL5.out (HP.out.af B5.out) (by omega)).mono ?_); rintro e w6 ⟨rfl, bel6⟩; have B6 := Lib.hid (bel_n B5.out bel6); clear bel6)
    | fail)
  have BX := Lib.hid B6.out
  clear OD WD RD HK1 HKF HA a0 a1 a2 a3 a4 SL3 SL5 B5 B4 B3 BD
  go_wp2_with fail
  go_loopw [6] (fun i wr => ∃ p : Nat, i = .int .i64 ((p : Int) - 1) ∧ p ≤ tn + 2 ∧ Below w.heap.size w wr) (fun i _ => tn + 2 - (intOf i + 1).toNat)
  case atStart => exact ⟨0, rfl, Nat.zero_le _, BX.out⟩
  case round =>
    obtain ⟨p, rfl, hp, hbel⟩ := hrel
    have HBL := Lib.hid hbel
    have HRR := Lib.hid (HR.out.below hbel)
    have HOO := Lib.hid (HO.out.below hbel)
    have q0 : wr.cell? ⟨gx, 0, none⟩ = some (.int .i64 x.tables) := (HB.out.after hbel).1 0 _ rfl
    have hpI : I64 ((p : Int) - 1) := by unfold I64; omega
    clear hbel
    rw [HTN.out] at q0
    by_cases hlt : p ≤ tn + 1
    · have hd : decide ((p : Int) - 1 ≤ (tn : Int)) = true := decide_eq_true (by omega)
      obtain ⟨b, hb⟩ : ∃ b, b = x.capt ((p : Int) - 1) := ⟨_, rfl⟩
      have HBB := Lib.hid hb
      clear hb
      go_wp2_with (first
        | (go_at_call 30; (with_reducible refine (muxCapt_any S gm g x _ HOO.out HF.out _ hpI).mono ?_); rintro e w7 ⟨rfl, bel7⟩; rw [← HBB.out]; have B7 := Lib.hid bel7; clear bel7)
        | (go_at_call 97; (with_reducible refine (refCapt_any T gx gw x _ (HRR.out.below B7.out) HF.out _ hpI).mono ?_); rintro e w8 ⟨rfl, rfl⟩; rw [← HBB.out])
        | fail)
      go_roundw
      case rel => exact ⟨p + 1, by go_num, by omega, bel_n HBL.out B7.out⟩
      case measure => simp [intOf]; omega
    · have hd : decide ((p : Int) - 1 ≤ (tn : Int)) = false := decide_eq_false (by omega)
      go_wp2_with fail
      go_ret
      exact ⟨rfl, HBL.out⟩
end Go.Proofs.Ythhpddiicnjmmaa
