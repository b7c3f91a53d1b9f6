/- Contract: the reference's Decode of a transaction. -/
import Derived.Test.YtojjeogpggielaaTxn12
import Derived.Deep.RegionLaw
import Derived.Deep.CutBlock
import Derived.Deep.DeepCutAuto
import Derived.Deep.LoopGhost
set_option linter.unusedVariables false
set_option linter.unusedSimpArgs false
namespace Go.Proofs.Ytojjeogpggielaa
open Go.RowKit

theorem setcells_blk {w : World} {R b : Nat} {cs : List Value} (h : Blk w b cs) (hb : b ≠ R) (v0 v1 v2 v3 v4 : Value) : Blk (((((w.setCell ⟨R, 0, none⟩ v0).setCell ⟨R, 1, none⟩ v1).setCell ⟨R, 2, none⟩ v2).setCell ⟨R, 3, none⟩ v3).setCell ⟨R, 4, none⟩ v4) b cs :=
  ((((h.other hb _ _).other hb _ _).other hb _ _).other hb _ _).other hb _ _

set_option maxRecDepth 100000 in
set_option maxHeartbeats 8000000 in
theorem reftxnDecode_any (A : Option Addr) (n c : Nat) (b : List UInt8) (w : World) (h : IsSl byteRep w (· < w.heap.size) A n b) (h1 : n ≤ c) (h2 : c ≤ maxLen) :
    Calls Try.prog 56 #[.slice A n c] w fun e w' => TxnRes (rdecTV b) (rdecTE b) w e w' := by
  obtain ⟨i0, hi, hz0, hz1, hz2⟩ := info_parts info_chg
  obtain ⟨j0, ji, jz0, jz1, jz2⟩ := info_parts info_str
  have H := Lib.hid h
  have bw0 : ∀ o, Below w.heap.size w (w.alloc o) := fun o => (Below.refl _ _).alloc (Nat.le_refl _) o
  clear h
  by_cases he : decE b = 0
  · obtain ⟨L, hL⟩ : ∃ L, L = decV b := ⟨_, rfl⟩
    obtain ⟨⟨x1, l1, b1⟩, hr1⟩ : ∃ a, a = rintP L false 1099511627776 := ⟨_, rfl⟩
    obtain ⟨⟨x2, l2, b2⟩, hr2⟩ : ∃ a, a = rintP l1 b1 3 := ⟨_, rfl⟩
    obtain ⟨⟨x3, l3, b3⟩, hr3⟩ : ∃ a, a = rintP l2 b2 1099511627776 := ⟨_, rfl⟩
    obtain ⟨⟨x4, l4, b4⟩, hr4⟩ : ∃ a, a = rintP l3 b3 16 := ⟨_, rfl⟩
    obtain ⟨⟨cs, l5, b5⟩, hr5⟩ : ∃ a, a = rrChgs x4.toNat l4 b4 [] := ⟨_, rfl⟩
    obtain ⟨⟨x6, l6, b6⟩, hr6⟩ : ∃ a, a = rintP l5 b5 2 := ⟨_, rfl⟩
    obtain ⟨⟨ts, l7, b7⟩, hr7⟩ : ∃ a, a = rrTxts x6.toNat l6 b6 [] := ⟨_, rfl⟩
    have hrd : rrTxn L = (⟨x1, x2, cs, ts, x3⟩, l7, b7) := by
      unfold rrTxn
      rw [← hr1]; dsimp only; rw [← hr2]; dsimp only; rw [← hr3]; dsimp only; rw [← hr4]; dsimp only; rw [← hr5]; dsimp only; rw [← hr6]; dsimp only; rw [← hr7]
    have HE := Lib.hid he
    have HRD := Lib.hid hrd
    have HR1 := Lib.hid hr1
    have HR2 := Lib.hid hr2
    have HR3 := Lib.hid hr3
    have HR4 := Lib.hid hr4
    have HR5 := Lib.hid hr5
    have HR6 := Lib.hid hr6
    have HR7 := Lib.hid hr7
    have HLL := Lib.hid hL
    clear he hrd hr1 hr2 hr3 hr4 hr5 hr6 hr7 hL
    go_enter Try.func56, Try.ntmps56
    go_upto_block 0 with (first
      | (go_at_call 103; (with_reducible refine (refdecode_any A n c b _ ((H.out.below (bw0 _)).more (by simp)) h1 h2).mono ?_); rintro ev w2 ⟨v2, rfl, own2, bel2⟩; rw [HE.out]; rw [← HLL.out] at own2; obtain ⟨A2, c2, rfl, hlc2, hcm2, sl2⟩ := own2.isSlB; have HWL := Lib.hid sl2.wfL; have RD2 := Lib.hid (RRd.new sl2 hlc2 hcm2 155); have R2 := Lib.hid ((Blk.new (w := w) (cs := #[.int .i64 0, .int .i64 0, .slice none 0 0, .slice none 0 0, .int .i64 0]) (t := 68) rfl rfl).after bel2); have hs2 : w.heap.size + 1 ≤ w2.heap.size := (by have h := bel2.size; simpa using h); have BEL2 := Lib.hid ((bw0 _).trans (bel2.mono (by simp))); clear own2 sl2 bel2)
      | (go_at_call 104; (with_reducible refine (rint_any _ w2.heap.size L false 1099511627776 _ RD2.out (Nat.le_refl _)).mono ?_); rintro ev w3 ⟨rfl, rd3, gr3⟩; rw [← HR1.out] at rd3 ⊢; have hs3 : w2.heap.size + 1 ≤ w3.heap.size := (by have h := gr3.size; simpa using h); have RD3 := Lib.hid (rd3.alloc (Nat.le_refl _) (.cells #[.int .i64 x1, .int .i64 0, .slice none 0 0, .slice none 0 0, .int .i64 0] 68)); have T3 := Lib.hid (Blk.new (w := w3) (cs := #[.int .i64 x1, .int .i64 0, .slice none 0 0, .slice none 0 0, .int .i64 0]) (t := 68) rfl rfl); have BE3 := Lib.hid ((((Below.refl w2.heap.size w2).alloc (Nat.le_refl _) _).grown gr3 (by simp) (fun k hk => by injection hk with hk; omega)).alloc (by omega) (.cells #[.int .i64 x1, .int .i64 0, .slice none 0 0, .slice none 0 0, .int .i64 0] 68)); have hgT : w2.heap.size < w3.heap.size := (by omega); clear rd3 gr3)
      | (go_at_call 104; (with_reducible refine (rint_any _ w2.heap.size l1 b1 3 _ RD3.out (Nat.le_refl _)).mono ?_); rintro ev w4 ⟨rfl, rd4, gr4⟩; rw [← HR2.out] at rd4 ⊢; have RD4 := Lib.hid rd4; have T4 := Lib.hid (T3.out.grown gr4 (fun k hk => by injection hk with hk; omega)); obtain ⟨t0, t1, t2, t3, t4, tz⟩ := T4.out.c5; have BE4 := Lib.hid (BE3.out.grown gr4 (by simp; omega) (fun k hk => by injection hk with hk; omega)); clear rd4 gr4)
      | (go_at_call 104; (with_reducible refine (rint_any _ w2.heap.size l2 b2 1099511627776 _ (RD4.out.stored (Nat.le_refl _) hgT 1 _) (Nat.le_refl _)).mono ?_); rintro ev w5 ⟨rfl, rd5, gr5⟩; rw [← HR3.out] at rd5 ⊢; have RD5 := Lib.hid rd5; have T5 := Lib.hid ((T4.out.put (j := 1) (by simp) (cs' := [.int .i64 x1, .int .i64 x2, .slice none 0 0, .slice none 0 0, .int .i64 0]) _ rfl).grown gr5 (fun k hk => by injection hk with hk; omega)); obtain ⟨t0, t1, t2, t3, t4, tz⟩ := T5.out.c5; have BE5 := Lib.hid ((BE4.out.setCell (p := ⟨w3.heap.size, 1, none⟩) (by show w2.heap.size ≤ w3.heap.size; omega) _).grown gr5 (by simp; have := BE4.out.size; omega) (fun k hk => by injection hk with hk; omega)); clear rd5 gr5)
      | (go_at_call 104; (with_reducible refine (rint_any _ w2.heap.size l3 b3 16 _ (RD5.out.stored (Nat.le_refl _) hgT 4 _) (Nat.le_refl _)).mono ?_); rintro ev w6 ⟨rfl, rd6, gr6⟩; rw [← HR4.out] at rd6 ⊢; have RD6 := Lib.hid rd6; have T6 := Lib.hid ((T5.out.put (j := 4) (by simp) (cs' := [.int .i64 x1, .int .i64 x2, .slice none 0 0, .slice none 0 0, .int .i64 x3]) _ rfl).grown gr6 (fun k hk => by injection hk with hk; omega)); have BE6 := Lib.hid ((BE5.out.setCell (p := ⟨w3.heap.size, 4, none⟩) (by show w2.heap.size ≤ w3.heap.size; omega) _).grown gr6 (by simp; have := BE5.out.size; omega) (fun k hk => by injection hk with hk; omega)); clear rd6 gr6)
      | fail)
    obtain ⟨g, hg⟩ : ∃ g, g = w2.heap.size := ⟨_, rfl⟩
    obtain ⟨T, hT⟩ : ∃ T, T = w3.heap.size := ⟨_, rfl⟩
    rw [← hT] at T6 hgT ⊢
    rw [← hg] at RD6 BE6 hgT hs2 ⊢
    clear RD2 RD3 RD4 RD5 T3 T4 T5 BE3 BE4 BE5 t0 t1 t2 t3 t4 tz hs3 hg hT
    have hq1 := rintP_wf HWL.out false 1099511627776 (by omega)
    rw [← HR1.out] at hq1
    have hq2 := rintP_wf hq1.2.2 b1 3 (by omega)
    rw [← HR2.out] at hq2
    have hq3 := rintP_wf hq2.2.2 b2 1099511627776 (by omega)
    rw [← HR3.out] at hq3
    have hq4 := rintP_wf hq3.2.2 b3 16 (by omega)
    rw [← HR4.out] at hq4
    have HW4 := Lib.hid hq4.2.2
    have hx4 : 0 ≤ x4 ∧ x4 ≤ 16 := ⟨hq4.1, hq4.2.1⟩
    clear hq1 hq2 hq3 hq4
    obtain ⟨k4, rfl⟩ := Int.eq_ofNat_of_zero_le hx4.1
    have hk4 : k4 ≤ 16 := by omega
    clear hx4
    go_cut [9] (fun i wx => ∃ v2 : Value, wfL l5 ∧ cs.length ≤ 16 ∧ RRd wx g g l5 b5 ∧ Own chgRep wx (T + 1) (fun _ => False) 53 v2 cs ∧ Blk wx T [.int .i64 x1, .int .i64 x2, v2, .slice none 0 0, .int .i64 x3] ∧ Below g w2 wx)
    case first =>
      go_wp2_with fail
      go_loopw [9] (fun i wr => ∃ (k : Nat) (l : List Fld) (bad : Bool) (acc : List Chg) (v2 : Value), i = .int .i64 k ∧ k ≤ k4 ∧ acc.length ≤ k ∧ rrChgs (k4 - k) l bad acc = (cs, l5, b5) ∧ wfL l ∧ RRd wr g g l bad ∧ Own chgRep wr (T + 1) (fun _ => False) 53 v2 acc ∧ Blk wr T [.int .i64 x1, .int .i64 x2, v2, .slice none 0 0, .int .i64 x3] ∧ Below g w2 wr) (fun i _ => k4 - (intOf i).toNat)
      case atStart => exact ⟨0, l4, b4, [], _, rfl, Nat.zero_le _, Nat.le_refl _, by have := HR5.out; rw [Int.toNat_natCast] at this; exact this.symm, HW4.out, RD6.out, Own.nil _ _ _ (fun _ h => h.elim) _ _, T6.out, BE6.out⟩
      case round =>
        obtain ⟨k, l, bad, acc, v2, rfl, hk, hlen, hrest, hwf, hrd, hown, hat, hbel⟩ := hrel
        have hTs := hat.lt
        have RD := Lib.hid hrd
        have OW := Lib.hid hown
        have AT := Lib.hid hat
        have BE := Lib.hid hbel
        have HRE := Lib.hid hrest
        have HWF := Lib.hid hwf
        have HRT : Hid (∀ q, rowOf v2 = some q → T < q) := Lib.hid (fun q hq => Nat.lt_of_succ_le (OW.out.row_ge hq))
        obtain ⟨Ar, nr, cr, ar, lr, r0, r1, r2, rz, _⟩ := hrd
        clear hown hbel hrest hwf
        by_cases hex : k4 - k = 0 ∨ bad = true
        · have hf := HRE.out
          rw [rrChgs_stop hex] at hf
          injection hf with e1 e2
          injection e2 with e2 e3
          subst e1 e2 e3
          clear hat HRE
          have hd : decide ((k : Int) < (k4 : Int)) = false ∨ (decide ((k : Int) < (k4 : Int)) = true ∧ bad = true) := by
            by_cases e : k < k4
            · right; exact ⟨decide_eq_true (by omega), hex.resolve_left (by omega)⟩
            · left; exact decide_eq_false (by omega)
          have hdn : decide (k < k4) = false ∨ (decide (k < k4) = true ∧ bad = true) := by
            by_cases e : k < k4
            · right; exact ⟨decide_eq_true (by omega), hex.resolve_left (by omega)⟩
            · left; exact decide_eq_false (by omega)
          clear hex
          rcases hd with hd | ⟨hd, rfl⟩
          · have hdn : decide (k < k4) = false := by simpa using hd
            go_wp2_with fail
            go_meet
            case rel => exact ⟨v2, HWF.out, by omega, RD.out, OW.out, AT.out, BE.out⟩
          · have hdn : decide (k < k4) = true := by simpa using hd
            go_wp2_with fail
            go_meet
            case rel => exact ⟨v2, HWF.out, by omega, RD.out, OW.out, AT.out, BE.out⟩
        · have hk2 : k < k4 := by omega
          have hbad : bad = false := by cases bad; rfl; exact absurd (.inr rfl) hex
          subst hbad
          have hd : decide ((k : Int) < (k4 : Int)) = true := decide_eq_true (by omega)
          have hdn : decide (k < k4) = true := decide_eq_true (by omega)
          obtain ⟨t0, t1, t2, t3, t4, tz⟩ := hat.c5
          obtain ⟨⟨y, lq, bq⟩, hy⟩ : ∃ a, a = rrChg l false := ⟨_, rfl⟩
          have hwq := rrChg_wf HWF.out false
          rw [← hy] at hwq
          have HWQ := Lib.hid hwq
          have HY := Lib.hid hy
          have HNX := Lib.hid (show rrChgs (k4 - (k + 1)) lq bq (acc ++ [y]) = (cs, l5, b5) by have h := HRE.out; rw [show k4 - k = (k4 - (k + 1)) + 1 by omega, rrChgs, if_neg (by simp), ← hy] at h; exact h)
          have RDD := Lib.hid RD.out.drew
          have ATD := Lib.hid AT.out.drew
          have OWD := Lib.hid OW.out.drew
          clear hy hwq hex hat
          go_wp2_with fail
          go_region_law (first
            | (refine step_append_Own _ rfl (.tmp 47) (.tmp 50) 22 rfl (T + 1) 53 i0 _ 40 Try.underlying22 hi hz0 hz1 hz2 rfl (R := chgRep) (S := fun _ => False) (l := acc) (l' := [y]) v2 rfl (OW8.out.alloc _) _ 1 1 rfl (Src.new (cs := y.cells) ⟨rfl, HWQ.out.1⟩) (by simp only [maxLen]; omega) (by omega) (by omega) (by simp; omega) ?_; intro v9 w9 own9 gr9 at9; obtain ⟨A9, c9, hv9, hlc9, hcm9, sl9⟩ := own9.isSlB; obtain ⟨m9, hm9⟩ : ∃ m9, m9 = (acc ++ [y]).length := ⟨_, rfl⟩; rw [← hm9] at hv9; subst hv9; clear hm9 hlc9 hcm9 sl9; have AT9 := Lib.hid ((AT8.out.alloc _).grown gr9 (fun k hk e => by have := HRT.out k hk; omega)); obtain ⟨s0, s1, s2, s3, s4, u2⟩ := AT9.out.c5; have OW9 := Lib.hid own9; have RD9 := Lib.hid ((RD8.out.alloc (Nat.le_refl _) _).grown (Nat.le_refl _) gr9 (fun k hk => by have := HRT.out k hk; omega)); have BE9 := Lib.hid ((BE8.out.alloc (by omega) _).grown gr9 (by simp; omega) (fun k hk => by have := HRT.out k hk; omega)); clear own9 gr9 at9)
            | (go_simp; go_at_call 105; (with_reducible refine (rchange_any g g l false _ RDD.out (Nat.le_refl _)).mono ?_); rintro ev w8 ⟨rfl, rd8, gr8⟩; rw [← HY.out] at rd8 ⊢; have AT8 := Lib.hid (ATD.out.grown gr8 (fun k hk => by injection hk with hk; omega)); obtain ⟨s0, s1, s2, s3, s4, u2⟩ := AT8.out.c5; have OW8 := Lib.hid (OWD.out.kept gr8 (fun k hk => ⟨fun e => (by have h1 := HRT.out k e; injection hk with hk; omega), id⟩)); have hs8 : T < w8.heap.size := AT8.out.lt; have RD8 := Lib.hid rd8; have BE8 := Lib.hid ((below_drewN BE.out 1).grown gr8 (Nat.le_of_lt (Nat.lt_trans hgT hTs)) (fun k hk => by injection hk with hk; omega)); clear rd8 gr8)
            | fail)
          all_goals
            go_wp2_with fail
            go_roundw
            case rel => exact ⟨k + 1, lq, bq, acc ++ [y], _, by go_num, by omega, by rw [List.length_append]; simp only [List.length_cons, List.length_nil]; omega, HNX.out, HWQ.out.2, RD9.out.stored (Nat.le_refl _) hgT 2 _, OW9.out.kept (grownBy_set w9 ⟨T, 2, none⟩ _) (fun k hk => ⟨fun e => (by have h1 := OW9.out.row_ge e; injection hk with hk; dsimp only at hk; omega), id⟩), AT9.out.put (by simp) _ rfl, BE9.out.setCell (Nat.le_of_lt hgT) _⟩
            case measure => simp [intOf]; omega
    case rest =>
      obtain ⟨v2, hwf, hl16, hrd, hown, hat, hbel⟩ := hcut
      have hTs := hat.lt
      have RD := Lib.hid hrd
      have OW := Lib.hid hown
      have AT := Lib.hid hat
      have BE := Lib.hid hbel
      have HRT : Hid (∀ q, rowOf v2 = some q → T < q) := Lib.hid (fun q hq => Nat.lt_of_succ_le (OW.out.row_ge hq))
      obtain ⟨Y, hY⟩ : ∃ Y, Y = wc.heap.size := ⟨_, rfl⟩
      have HRY := Lib.hid (show ∀ q, rowOf v2 = some q → q < Y by rw [hY]; exact fun q hq => OW.out.row_lt hq)
      have hTY : T < Y := by rw [hY]; exact hTs
      have HY0 := Lib.hid hY
      have hx6 := rintP_wf hwf b5 2 (by omega)
      rw [← HR6.out] at hx6
      have HW6 := Lib.hid hx6.2.2
      obtain ⟨k6, hk6⟩ := Int.eq_ofNat_of_zero_le hx6.1
      have hk62 : k6 ≤ 2 := by have := hx6.2.1; (try dsimp only at *); omega
      dsimp only at hk6
      subst hk6
      clear hY hx6 hat hrd hown hbel hwf RD6 T6 BE6 HR5 HW4
      go_upto_block 2 with (first
        | (go_at_call 104; (with_reducible refine (rint_any _ g l5 b5 2 _ RD.out (Nat.le_refl _)).mono ?_); rintro ev w10 ⟨rfl, rd10, gr10⟩; rw [← HR6.out] at rd10 ⊢; have RD10 := Lib.hid rd10; have AT10 := Lib.hid (AT.out.grown gr10 (fun k hk => by injection hk with hk; omega)); have OW10 := Lib.hid (OW.out.kept gr10 (fun k hk => ⟨fun e => (by have h1 := HRT.out k e; injection hk with hk; omega), id⟩)); have BE10 := Lib.hid (BE.out.grown gr10 (by omega) (fun k hk => by injection hk with hk; omega)); have hY10 : Y ≤ w10.heap.size := (by have := gr10.size; have := HY0.out; omega); clear rd10 gr10)
        | fail)
      go_cut [10] (fun i wx => ∃ v3 : Value, RRd wx g g l7 b7 ∧ Own chgRep wx (T + 1) (fun _ => False) 53 v2 cs ∧ Own strRep wx Y (fun _ => False) 9 v3 ts ∧ Blk wx T [.int .i64 x1, .int .i64 x2, v2, v3, .int .i64 x3] ∧ Below g w2 wx ∧ Y ≤ wx.heap.size)
      case first =>
        go_wp2_with fail
        go_loopw [10] (fun i wr => ∃ (k : Nat) (l : List Fld) (bad : Bool) (acc2 : List ByteArray) (v3 : Value), i = .int .i64 k ∧ k ≤ k6 ∧ acc2.length ≤ k ∧ rrTxts (k6 - k) l bad acc2 = (ts, l7, b7) ∧ wfL l ∧ RRd wr g g l bad ∧ Own chgRep wr (T + 1) (fun _ => False) 53 v2 cs ∧ Own strRep wr Y (fun _ => False) 9 v3 acc2 ∧ Blk wr T [.int .i64 x1, .int .i64 x2, v2, v3, .int .i64 x3] ∧ Below g w2 wr ∧ Y ≤ wr.heap.size) (fun i _ => k6 - (intOf i).toNat)
        case atStart => exact ⟨0, l6, b6, [], _, rfl, Nat.zero_le _, Nat.le_refl _, by have := HR7.out; rw [Int.toNat_natCast] at this; exact this.symm, HW6.out, RD10.out, OW10.out, Own.nil _ _ _ (fun _ h => h.elim) _ _, AT10.out, BE10.out, hY10⟩
        case round =>
          obtain ⟨k, l, bad, acc2, v3, rfl, hk, hlen, hrest, hwf, hrd, hown, hown3, hat, hbel, hYs⟩ := hrel
          have hTs := hat.lt
          have RD := Lib.hid hrd
          have OW := Lib.hid hown
          have OV := Lib.hid hown3
          have AT := Lib.hid hat
          have BE := Lib.hid hbel
          have HRE := Lib.hid hrest
          have HWF := Lib.hid hwf
          have HRV : Hid (∀ q, rowOf v3 = some q → Y ≤ q) := Lib.hid (fun q hq => OV.out.row_ge hq)
          obtain ⟨Ar, nr, cr, ar, lr, r0, r1, r2, rz, _⟩ := hrd
          clear hown hown3 hbel hrest hwf RD10 OW10 AT10 BE10 hY10
          by_cases hex : k6 - k = 0 ∨ bad = true
          · have hf := HRE.out
            rw [rrTxts_stop hex] at hf
            injection hf with e1 e2
            injection e2 with e2 e3
            subst e1 e2 e3
            clear hat HRE
            have hd : decide ((k : Int) < (k6 : Int)) = false ∨ (decide ((k : Int) < (k6 : Int)) = true ∧ bad = true) := by
              by_cases e : k < k6
              · right; exact ⟨decide_eq_true (by omega), hex.resolve_left (by omega)⟩
              · left; exact decide_eq_false (by omega)
            clear hex
            rcases hd with hd | ⟨hd, rfl⟩
            · have hdn : decide (k < k6) = false := by simpa using hd
              go_wp2_with fail
              go_meet
              case rel => exact ⟨v3, RD.out, OW.out, OV.out, AT.out, BE.out, hYs⟩
            · have hdn : decide (k < k6) = true := by simpa using hd
              go_wp2_with fail
              go_meet
              case rel => exact ⟨v3, RD.out, OW.out, OV.out, AT.out, BE.out, hYs⟩
          · have hk2 : k < k6 := by omega
            have hbad : bad = false := by cases bad; rfl; exact absurd (.inr rfl) hex
            subst hbad
            have hd : decide ((k : Int) < (k6 : Int)) = true := decide_eq_true (by omega)
            have hdn : decide (k < k6) = true := decide_eq_true (by omega)
            obtain ⟨t0, t1, t2, t3, t4, tz⟩ := hat.c5
            obtain ⟨⟨y, lq, bq⟩, hy⟩ : ∃ a, a = rtextP l false := ⟨_, rfl⟩
            have hwq := rtextP_wf HWF.out false
            rw [← hy] at hwq
            have HWQ := Lib.hid hwq
            have HYY := Lib.hid hy
            have HNX := Lib.hid (show rrTxts (k6 - (k + 1)) lq bq (acc2 ++ [y]) = (ts, l7, b7) by have h := HRE.out; rw [show k6 - k = (k6 - (k + 1)) + 1 by omega, rrTxts, if_neg (by simp), ← hy] at h; exact h)
            have RDD := Lib.hid RD.out.drew
            have ATD := Lib.hid AT.out.drew
            have OWD := Lib.hid OW.out.drew
            have OVD := Lib.hid OV.out.drew
            clear hy hwq hex hat
            go_wp2_with fail
            go_region_law (first
              | (refine step_append_Own _ rfl (.tmp 68) (.tmp 71) 66 rfl Y 9 j0 _ 16 Try.underlying66 ji jz0 jz1 jz2 rfl (R := strRep) (S := fun _ => False) (l := acc2) (l' := [y]) v3 rfl (OV8.out.alloc _) _ 1 1 rfl (Src.new (cs := [.string y]) ⟨rfl, HWQ.out.1⟩) (by simp only [maxLen]; omega) (by omega) (by omega) (by simp; omega) ?_; intro v9 w9 own9 gr9 at9; obtain ⟨A9, c9, hv9, hlc9, hcm9, sl9⟩ := own9.isSlB; obtain ⟨m9, hm9⟩ : ∃ m9, m9 = (acc2 ++ [y]).length := ⟨_, rfl⟩; rw [← hm9] at hv9; subst hv9; clear hm9 hlc9 hcm9 sl9; have AT9 := Lib.hid ((AT8.out.alloc _).grown gr9 (fun k hk e => by have := HRV.out k hk; omega)); obtain ⟨s0, s1, s2, s3, s4, u2⟩ := AT9.out.c5; have OV9 := Lib.hid own9; have OW9 := Lib.hid ((OW8.out.alloc _).kept gr9 (fun k hk => ⟨fun e => (by have h1 := HRV.out k hk; have h2 := HRY.out k e; omega), id⟩)); have RD9 := Lib.hid ((RD8.out.alloc (Nat.le_refl _) _).grown (Nat.le_refl _) gr9 (fun k hk => by have := HRV.out k hk; omega)); have BE9 := Lib.hid ((BE8.out.alloc (by omega) _).grown gr9 (by simp; omega) (fun k hk => by have := HRV.out k hk; omega)); have hYs9 : Y ≤ w9.heap.size := (by have := gr9.size; simp at this; omega); clear own9 gr9 at9)
              | (go_simp; go_at_call 106; (with_reducible refine (rtext_any g g l false _ RDD.out (Nat.le_refl _)).mono ?_); rintro ev w8 ⟨rfl, rd8, gr8⟩; rw [← HYY.out] at rd8 ⊢; have AT8 := Lib.hid (ATD.out.grown gr8 (fun k hk => by injection hk with hk; omega)); obtain ⟨s0, s1, s2, s3, s4, u2⟩ := AT8.out.c5; have OW8 := Lib.hid (OWD.out.kept gr8 (fun k hk => ⟨fun e => (by have h1 := HRT.out k e; injection hk with hk; omega), id⟩)); have OV8 := Lib.hid (OVD.out.kept gr8 (fun k hk => ⟨fun e => (by have h1 := HRV.out k e; injection hk with hk; omega), id⟩)); have hs8 : T < w8.heap.size := AT8.out.lt; have hYs8 : Y ≤ w8.heap.size := (by have := gr8.size; exact Nat.le_trans hYs this); have RD8 := Lib.hid rd8; have BE8 := Lib.hid ((below_drewN BE.out 1).grown gr8 (Nat.le_of_lt (Nat.lt_trans hgT hTs)) (fun k hk => by injection hk with hk; omega)); clear rd8 gr8)
              | fail)
            all_goals
              go_wp2_with fail
              go_roundw
              case rel => exact ⟨k + 1, lq, bq, acc2 ++ [y], _, by go_num, by omega, by rw [List.length_append]; simp only [List.length_cons, List.length_nil]; omega, HNX.out, HWQ.out.2, RD9.out.stored (Nat.le_refl _) hgT 3 _, OW9.out.kept (grownBy_set w9 ⟨T, 3, none⟩ _) (fun k hk => ⟨fun e => (by have h1 := OW9.out.row_ge e; injection hk with hk; dsimp only at hk; omega), id⟩), OV9.out.kept (grownBy_set w9 ⟨T, 3, none⟩ _) (fun k hk => ⟨fun e => (by have h1 := OV9.out.row_ge e; injection hk with hk; dsimp only at hk; omega), id⟩), AT9.out.put (by simp) _ rfl, BE9.out.setCell (Nat.le_of_lt hgT) _, by simpa using hYs9⟩
              case measure => simp [intOf]; omega
      case rest =>
        clear RD OW AT BE RD10 OW10 AT10 BE10 hY10 HR7 HW6
        obtain ⟨v3, hrd, hown, hown3, hat, hbel, hYs⟩ := hcut
        have hTs := hat.lt
        have RD := Lib.hid hrd
        have OW := Lib.hid hown
        have OV := Lib.hid hown3
        have AT := Lib.hid hat
        have BE := Lib.hid hbel
        have R0 := Lib.hid (R2.out.below BE.out (by omega))
        clear hrd hown hown3 hat hbel
        have BEw := Lib.hid (BEL2.out.trans (BE.out.mono (by omega)))
        have HRD2 := Lib.hid (show rrTxn (decV b) = (⟨x1, x2, cs, ts, x3⟩, l7, b7) by rw [← HLL.out]; exact HRD.out)
        cases hd : (!b7 && l7.isEmpty)
        · have HD := Lib.hid hd
          have HX := Lib.hid (rdec_no HE.out HRD2.out (by rintro ⟨rfl, rfl, _⟩; cases hd))
          obtain ⟨r0, r1, r2, r3, r4, q2⟩ := R0.out.c5
          have hRs := R0.out.lt
          clear hd
          go_wp2_with (first
            | (go_at_call 107; (with_reducible refine (rend_any g g l7 b7 _ RD.out).mono ?_); rintro ev w' ⟨rfl, k9, rfl⟩; rw [HD.out])
            | fail)
          refine bodyPost_ret (by simp [results, Try.results56, go_sem, r0, r1, r2, r3, r4]; try rfl) rfl ?_
          rw [HX.out.1, HX.out.2]
          exact ⟨none, 0, 0, none, 0, 0, rfl, IsSl.nil, Nat.le_refl _, Nat.zero_le _, IsSl.nil, Nat.le_refl _, Nat.zero_le _, setcells_below (below_drewN BEw.out _) (Nat.le_refl _) _ _ _ _ _⟩
        · have HD := Lib.hid hd
          obtain ⟨rfl, rfl⟩ : b7 = false ∧ l7 = [] := by
            cases b7 <;> cases l7 <;> simp at hd ⊢
          obtain ⟨Ac, cc, hvc, hlc, hmc, slc⟩ := OW.out.isSlR
          subst hvc
          obtain ⟨As, cs', hvs, hls, hms, sls⟩ := OV.out.isSlR
          subst hvs
          obtain ⟨t0, t1, t2, t3, t4, y2⟩ := AT.out.c5
          obtain ⟨r0, r1, r2, r3, r4, q2⟩ := R0.out.c5
          have hRs := R0.out.lt
          have SLC := Lib.hid slc
          have SLS := Lib.hid sls
          obtain ⟨nc, hnc⟩ : ∃ nc, nc = cs.length := ⟨_, rfl⟩
          obtain ⟨ns, hns⟩ : ∃ ns, ns = ts.length := ⟨_, rfl⟩
          rw [← hnc] at SLC hlc t2
          try rw [← hnc]
          rw [← hns] at SLS hls t3
          try rw [← hns]
          clear hd OW OV AT HRT HRY hnc hns slc sls
          have HM0 : Hid (∀ k, Calls Try.prog 48 #[.agg #[.int .i64 x1, .int .i64 x2, .slice Ac nc cc, .slice As ns cs', .int .i64 x3]] (wc.drewN k) fun e w' => e = .returned (.bool (mayTxn ⟨x1, x2, cs, ts, x3⟩)) ∧ Below (wc.drewN k).heap.size (wc.drewN k) w') :=
            Lib.hid (fun k => refmay_any ⟨x1, x2, cs, ts, x3⟩ Ac nc cc As ns cs' (wc.drewN k) (SLC.out.weak fun _ h => h.2) (SLS.out.weak fun _ h => h.2))
          cases hm : mayTxn ⟨x1, x2, cs, ts, x3⟩
          · have HM := Lib.hid hm
            have HX := Lib.hid (rdec_no HE.out HRD2.out (by rintro ⟨_, _, h⟩; rw [hm] at h; cases h))
            clear hm
            go_wp2_with (first
              | (go_at_call 107; (with_reducible refine (rend_any g g [] false _ RD.out).mono ?_); rintro ev w' ⟨rfl, k9, rfl⟩; rw [HD.out])
              | (go_at_call 48; (with_reducible refine (HM0.out k9).mono ?_); rintro ev w11 ⟨rfl, bel11⟩; rw [HM.out]; obtain ⟨r0, r1, r2, r3, r4, q2⟩ := ((R0.out.drewN k9).after bel11).c5; have hRs := Nat.lt_of_lt_of_le hRs bel11.size; have BEX := Lib.hid ((below_drewN BEw.out k9).trans (bel11.mono BEw.out.size)); clear bel11)
              | fail)
            refine bodyPost_ret (by simp [results, Try.results56, go_sem, r0, r1, r2, r3, r4]; try rfl) rfl ?_
            rw [HX.out.1, HX.out.2]
            exact ⟨none, 0, 0, none, 0, 0, rfl, IsSl.nil, Nat.le_refl _, Nat.zero_le _, IsSl.nil, Nat.le_refl _, Nat.zero_le _, setcells_below BEX.out (Nat.le_refl _) _ _ _ _ _⟩
          · have HM := Lib.hid hm
            have HX := Lib.hid (rdec_ok HE.out HRD2.out hm)
            clear hm
            go_wp2_with (first
              | (go_at_call 107; (with_reducible refine (rend_any g g [] false _ RD.out).mono ?_); rintro ev w' ⟨rfl, k9, rfl⟩; rw [HD.out])
              | (go_at_call 48; (with_reducible refine (HM0.out k9).mono ?_); rintro ev w11 ⟨rfl, bel11⟩; rw [HM.out]; obtain ⟨r0, r1, r2, r3, r4, q2⟩ := ((R0.out.drewN k9).after bel11).c5; have t0 := (bel11.cell (p := ⟨T, 0, none⟩) hTs).trans t0; have t1 := (bel11.cell (p := ⟨T, 1, none⟩) hTs).trans t1; have t2 := (bel11.cell (p := ⟨T, 2, none⟩) hTs).trans t2; have t3 := (bel11.cell (p := ⟨T, 3, none⟩) hTs).trans t3; have t4 := (bel11.cell (p := ⟨T, 4, none⟩) hTs).trans t4; have hRs := Nat.lt_of_lt_of_le hRs bel11.size; have BEX := Lib.hid ((below_drewN BEw.out k9).trans (bel11.mono BEw.out.size)); have SC := Lib.hid (SLC.out.keep fun p hp => bel11.cell hp.2); have SS := Lib.hid (SLS.out.keep fun p hp => bel11.cell hp.2); have hs11 := bel11.size; clear bel11)
              | fail)
            refine bodyPost_ret (by simp [results, Try.results56, go_sem, r0, r1, r2, r3, r4]; try rfl) rfl ?_
            rw [HX.out.1, HX.out.2]
            exact ⟨Ac, nc, cc, As, ns, cs', rfl, (setcells_keep SC.out (by omega) _ _ _ _ _).weak (fun b hb => by simp at hs11 ⊢; omega), hlc, hmc, (setcells_keep SS.out (by omega) _ _ _ _ _).weak (fun b hb => by simp at hs11 ⊢; omega), hls, hms, setcells_below BEX.out (Nat.le_refl _) _ _ _ _ _⟩
  · have HX := Lib.hid (rdec_err he)
    obtain ⟨e0, he0⟩ : ∃ e0, e0 = decE b := ⟨_, rfl⟩
    have hb1 : (e0 == 0) = false := by rw [he0]; simpa using he
    have hb2 : (e0 != 0) = true := by rw [he0]; simpa using he
    have HE0 := Lib.hid he0
    clear he he0
    go_enter Try.func56, Try.ntmps56
    go_wp2_with (first
      | (go_at_call 103; (with_reducible refine (refdecode_any A n c b _ ((H.out.below (bw0 _)).more (by simp)) h1 h2).mono ?_); rintro ev w2 ⟨v2, rfl, own2, bel2⟩; rw [← HE0.out]; have R0 := Lib.hid ((Blk.new (w := w) (cs := #[.int .i64 0, .int .i64 0, .slice none 0 0, .slice none 0 0, .int .i64 0]) (t := 68) rfl rfl).after bel2); obtain ⟨r0, r1, r2, r3, r4, q2⟩ := R0.out.c5; have hRs := R0.out.lt; have BEX := Lib.hid ((bw0 _).trans (bel2.mono (by simp))); clear own2 bel2)
      | fail)
    refine bodyPost_ret (by simp [results, Try.results56, go_sem, r0, r1, r2, r3, r4]; try rfl) rfl ?_
    rw [HX.out.1, HX.out.2, ← HE0.out]
    exact ⟨none, 0, 0, none, 0, 0, rfl, IsSl.nil, Nat.le_refl _, Nat.zero_le _, IsSl.nil, Nat.le_refl _, Nat.zero_le _, setcells_below BEX.out (Nat.le_refl _) _ _ _ _ _⟩
end Go.Proofs.Ytojjeogpggielaa
