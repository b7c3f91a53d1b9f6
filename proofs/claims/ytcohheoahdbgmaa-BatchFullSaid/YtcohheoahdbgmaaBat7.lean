/- Contract: batch.Decode. Written by gen_bat7.py. -/
import Derived.Test.YtcohheoahdbgmaaBat6
import Derived.Test.YtcohheoahdbgmaaHelpL
import Derived.Test.YtcohheoahdbgmaaBat2
import Derived.Deep.RegionLaw
import Derived.Deep.CutBlock
import Derived.Deep.DeepCutAuto
import Derived.Deep.LoopGhost
set_option linter.unusedVariables false
set_option linter.unusedSimpArgs false
namespace Go.Proofs.Ytcohheoahdbgmaa
open Go.RowKit

/-- What a decoding answers: an item that lies somewhere, and the error. -/
def ItemRes (t : Item) (er : Int) (w : World) (e : Ending) (w' : World) : Prop :=
  ∃ A n c A2 n2 c2, e = .returned (.tuple #[.agg #[.int .i64 t.lsn, .slice A n c, .slice A2 n2 c2], .int .i64 er]) ∧ IsSl oprRep w' (· < w'.heap.size) A n t.ops ∧ n ≤ c ∧ c ≤ maxLen ∧ IsSl noteRep w' (· < w'.heap.size) A2 n2 t.notes ∧ n2 ≤ c2 ∧ c2 ≤ maxLen ∧ Below w.heap.size w w'

theorem info_opr : (Try.prog.info? 29).map (fun i => (i.zero, i.size, i.bytes)) = some (some (.agg #[.int .i64 0, .int .i64 0, .int .i64 0, .bool false, .string ByteArray.empty]), 5, 48) := by kernel_rfl
theorem info_note : (Try.prog.info? 27).map (fun i => (i.zero, i.size, i.bytes)) = some (some (.agg #[.int .i64 0, .int .i64 0, .int .i64 0, .int .i64 0, .int .i64 0, .int .i64 0, .bool false]), 7, 56) := by kernel_rfl

theorem set3_below {B R : Nat} {w w' : World} (h : Below B w w') (hR : B ≤ R) (a b c : Value) : Below B w (((w'.setCell ⟨R, 0, none⟩ a).setCell ⟨R, 1, none⟩ b).setCell ⟨R, 2, none⟩ c) :=
  ((h.setCell hR _).setCell hR _).setCell hR _
theorem set3_keep {α : Type} {Rp : Rep α} {S : Nat → Prop} {w : World} {R n : Nat} {A : Option Addr} {l : List α} (h : IsSl Rp w S A n l) (hS : ¬ S R) (a b c : Value) : IsSl Rp (((w.setCell ⟨R, 0, none⟩ a).setCell ⟨R, 1, none⟩ b).setCell ⟨R, 2, none⟩ c) S A n l :=
  h.keep fun p hp => by
    have hne : ∀ j, (⟨R, j, none⟩ : Addr) ≠ p := fun j e => hS (by rw [← e] at hp; exact hp)
    rw [World.cell?_setCell_other _ _ _ _ (hne 2), World.cell?_setCell_other _ _ _ _ (hne 1), World.cell?_setCell_other _ _ _ _ (hne 0)]

set_option maxRecDepth 100000 in
set_option maxHeartbeats 16000000 in
theorem batDecode_any (A : Option Addr) (n c : Nat) (b : List UInt8) (w : World) (h : IsSl byteRep w (· < w.heap.size) A n b) (h1 : n ≤ c) (h2 : c ≤ maxLen) :
    Calls Try.prog 24 #[.slice A n c] w fun e w' => ItemRes (decIV b) (decIE b) w e w' := by
  obtain ⟨i0, hi, hz0, hz1, hz2⟩ := info_parts info_opr
  obtain ⟨j0, ji, jz0, jz1, jz2⟩ := info_parts info_note
  have H := Lib.hid h
  have bw0 : ∀ o, Below w.heap.size w (w.alloc o) := fun o => (Below.refl _ _).alloc (Nat.le_refl _) o
  clear h
  by_cases he : decE b = 0
  · obtain ⟨L, hL⟩ : ∃ L, L = decV b := ⟨_, rfl⟩
    obtain ⟨⟨x1, l1, b1⟩, hr1⟩ : ∃ a, a = intP L false := ⟨_, rfl⟩
    obtain ⟨⟨x4, l4, b4⟩, hr4⟩ : ∃ a, a = smallP l1 b1 4096 := ⟨_, rfl⟩
    obtain ⟨⟨cs, l5, b5⟩, hr5⟩ : ∃ a, a = rdMany rdOpr x4.toNat l4 b4 [] := ⟨_, rfl⟩
    obtain ⟨⟨x6, l6, b6⟩, hr6⟩ : ∃ a, a = smallP l5 b5 256 := ⟨_, rfl⟩
    obtain ⟨⟨ts, l7, b7⟩, hr7⟩ : ∃ a, a = rdMany rdNote x6.toNat l6 b6 [] := ⟨_, rfl⟩
    have hrd : rdItem L = (⟨x1, cs, ts⟩, l7, b7) := by
      unfold rdItem
      rw [← hr1]; dsimp only; rw [← hr4]; dsimp only; rw [← hr5]; dsimp only; rw [← hr6]; dsimp only; rw [← hr7]
    have HE := Lib.hid he
    have HRD := Lib.hid hrd
    have HR1 := Lib.hid hr1
    have HR4 := Lib.hid hr4
    have HR5 := Lib.hid hr5
    have HR6 := Lib.hid hr6
    have HR7 := Lib.hid hr7
    have HLL := Lib.hid hL
    clear he hrd hr1 hr4 hr5 hr6 hr7 hL
    go_enter Try.func24, Try.ntmps24
    go_upto_block 0 with (first
      | (go_at_call 51; (with_reducible refine (decode_any A n c b _ ((H.out.below (bw0 _)).more (by simp)) h1 h2).mono ?_); rintro ev w2 ⟨v2, rfl, own2, bel2⟩; rw [HE.out]; rw [← HLL.out] at own2; obtain ⟨A2, c2, rfl, hlc2, hcm2, sl2⟩ := own2.isSlB; have HWL := Lib.hid sl2.wfL; have SL2 := Lib.hid sl2; have R2 := Lib.hid ((Blk.new (w := w) (cs := #[.int .i64 0, .slice none 0 0, .slice none 0 0]) (t := 25) rfl rfl).after bel2); have hs2 : w.heap.size + 1 ≤ w2.heap.size := (by have h := bel2.size; simpa using h); have BEL2 := Lib.hid ((bw0 _).trans (bel2.mono (by simp))); clear own2 sl2 bel2)
      | (go_at_call 52; (with_reducible refine (pread_any A2 L.length c2 L _ SL2.out hlc2 hcm2).mono ?_); rintro ev w3 ⟨rfl, rd3, bel3⟩; have RD3 := Lib.hid rd3; have hg3 := rd3.lt; have BEL3 := Lib.hid bel3; clear rd3 bel3)
      | (go_at_call 53; (with_reducible refine (pint_any _ w2.heap.size L false _ RD3.out (Nat.le_refl _)).mono ?_); rintro ev w4 ⟨rfl, rd4, gr4⟩; rw [← HR1.out] at rd4 ⊢; have RD4 := Lib.hid (rd4.alloc (Nat.le_refl _) (.cells #[.int .i64 x1, .slice none 0 0, .slice none 0 0] 25)); have T4 := Lib.hid (Blk.new (w := w4) (cs := #[.int .i64 x1, .slice none 0 0, .slice none 0 0]) (t := 25) rfl rfl); have hgT : w2.heap.size < w4.heap.size := Nat.lt_of_lt_of_le hg3 gr4.size; have BE4 := Lib.hid ((BEL3.out.grown gr4 BEL3.out.size (fun k hk => by injection hk with hk; omega)).alloc (by omega) (.cells #[.int .i64 x1, .slice none 0 0, .slice none 0 0] 25)); clear rd4 gr4)
      | (go_at_call 54; (with_reducible refine (psmall_any _ w2.heap.size l1 b1 4096 _ RD4.out (Nat.le_refl _)).mono ?_); rintro ev w6 ⟨rfl, rd6, gr6⟩; rw [← HR4.out] at rd6 ⊢; have RD6 := Lib.hid rd6; have T6 := Lib.hid (T4.out.grown gr6 (fun k hk => by injection hk with hk; omega)); have BE6 := Lib.hid (BE4.out.grown gr6 (by simp; omega) (fun k hk => by injection hk with hk; omega)); clear rd6 gr6)
      | fail)
    obtain ⟨g, hg⟩ : ∃ g, g = w2.heap.size := ⟨_, rfl⟩
    obtain ⟨T, hT⟩ : ∃ T, T = w4.heap.size := ⟨_, rfl⟩
    rw [← hT] at T6 hgT ⊢
    rw [← hg] at RD6 BE6 hgT hs2 ⊢
    clear RD3 RD4 T4 BE4 BEL3 hg3 hg hT SL2
    have hq1 := intP_wf HWL.out false
    rw [← HR1.out] at hq1
    have hq4 := smallP_wf hq1.2 b1 4096 (by omega)
    rw [← HR4.out] at hq4
    have HW4 := Lib.hid hq4.2.2
    have hx4 : 0 ≤ x4 ∧ x4 ≤ 4096 := ⟨hq4.1, hq4.2.1⟩
    clear hq1 hq4
    obtain ⟨k4, rfl⟩ := Int.eq_ofNat_of_zero_le hx4.1
    have hk4 : k4 ≤ 4096 := by omega
    clear hx4
    go_cut [8] (fun i wx => ∃ v2 : Value, wfL l5 ∧ cs.length ≤ 4096 ∧ PRd wx g g l5 b5 ∧ Own oprRep wx (T + 1) (fun _ => False) 29 v2 cs ∧ Blk wx T [.int .i64 x1, v2, .slice none 0 0] ∧ Below g w2 wx)
    case first =>
      go_wp2_with fail
      go_loopw [8] (fun i wr => ∃ (k : Nat) (l : List Fld) (bad : Bool) (acc : List Opr) (v2 : Value), i = .int .i64 k ∧ acc.length + k ≤ 4096 ∧ rdMany rdOpr k l bad acc = (cs, l5, b5) ∧ wfL l ∧ PRd wr g g l bad ∧ Own oprRep wr (T + 1) (fun _ => False) 29 v2 acc ∧ Blk wr T [.int .i64 x1, v2, .slice none 0 0] ∧ Below g w2 wr) (fun i _ => (intOf i).toNat)
      case atStart => exact ⟨k4, l4, b4, [], _, rfl, by simpa using hk4, by have := HR5.out; rw [Int.toNat_natCast] at this; exact this.symm, HW4.out, RD6.out, Own.nil _ _ _ (fun _ h => h.elim) _ _, T6.out, BE6.out⟩
      case round =>
        obtain ⟨k, l, bad, acc, v2, rfl, hlen, hrest, hwf, hrd, hown, hat, hbel⟩ := hrel
        have hTs := hat.lt
        have RD := Lib.hid hrd
        have OW := Lib.hid hown
        have AT := Lib.hid hat
        have BE := Lib.hid hbel
        have HRE := Lib.hid hrest
        have HWF := Lib.hid hwf
        have HRT : Hid (∀ q, rowOf v2 = some q → T < q) := Lib.hid (fun q hq => Nat.lt_of_succ_le (OW.out.row_ge hq))
        clear hrd hown hbel hrest hwf RD6 T6 BE6
        by_cases hex : k = 0 ∨ bad = true
        · have hf := HRE.out
          rw [rdMany_stop hex] at hf
          injection hf with e1 e2
          injection e2 with e2 e3
          subst e1 e2 e3
          clear hat HRE
          by_cases hk0 : k = 0
          · subst hk0
            clear hex
            go_wp2_with fail
            go_meet
            case rel => exact ⟨v2, HWF.out, by omega, RD.out, OW.out, AT.out, BE.out⟩
          · obtain rfl : bad = true := hex.resolve_left hk0
            have hd : decide ((0 : Int) < (k : Int)) = true := decide_eq_true (by omega)
            have hdn : decide (0 < k) = true := decide_eq_true (by omega)
            clear hex hk0
            go_wp2_with (first
              | (go_at_call 55; (with_reducible refine (pmore_any g g l true _ RD.out (Nat.le_refl _)).mono ?_); rintro ev w' ⟨rfl, rfl⟩)
              | fail)
            go_meet
            case rel => exact ⟨v2, HWF.out, by omega, RD.out, OW.out, AT.out, BE.out⟩
        · obtain ⟨q, rfl⟩ : ∃ q, k = q + 1 := ⟨k - 1, by omega⟩
          have hbad : bad = false := by cases bad; rfl; exact absurd (.inr rfl) hex
          subst hbad
          have hd : decide ((0 : Int) < ((q + 1 : Nat) : Int)) = true := decide_eq_true (by omega)
          have hdn : decide (0 < q + 1) = true := decide_eq_true (by omega)
          obtain ⟨t0, t1, t2, tz⟩ := hat.c3
          obtain ⟨⟨y, lq, bq⟩, hy⟩ : ∃ a, a = rdOpr l false := ⟨_, rfl⟩
          have hwq := rdOpr_wf l false HWF.out
          rw [← hy] at hwq
          have HWQ := Lib.hid hwq
          have HY := Lib.hid hy
          have HNX := Lib.hid (show rdMany rdOpr q lq bq (acc ++ [y]) = (cs, l5, b5) by have h := HRE.out; rw [rdMany_next, ← hy] at h; exact h)
          have RDD := Lib.hid RD.out.drew
          have ATD := Lib.hid AT.out.drew
          have OWD := Lib.hid OW.out.drew
          clear hy hwq hex hat
          go_wp2_with (first
            | (go_at_call 55; (with_reducible refine (pmore_any g g l false _ RD.out (Nat.le_refl _)).mono ?_); rintro ev w' ⟨rfl, rfl⟩)
            | fail)
          go_region_law (first
            | (refine step_append_Own _ rfl (.tmp 35) (.tmp 38) 22 rfl (T + 1) 29 i0 _ 48 Try.underlying22 hi hz0 hz1 hz2 rfl (R := oprRep) (S := fun _ => False) (l := acc) (l' := [y]) v2 rfl (OW8.out.alloc _) _ 1 1 rfl (Src.new (cs := y.cells) ⟨rfl, HWQ.out.1⟩) (by simp only [maxLen]; omega) (by omega) (by omega) (by simp; omega) ?_; intro v9 w9 own9 gr9 at9; obtain ⟨A9, c9, hv9, hlc9, hcm9, sl9⟩ := own9.isSlB; obtain ⟨m9, hm9⟩ : ∃ m9, m9 = (acc ++ [y]).length := ⟨_, rfl⟩; rw [← hm9] at hv9; subst hv9; clear hm9 hlc9 hcm9 sl9; have AT9 := Lib.hid ((AT8.out.alloc _).grown gr9 (fun k hk e => by have := HRT.out k hk; omega)); obtain ⟨s0, s1, s2, sz⟩ := AT9.out.c3; have OW9 := Lib.hid own9; have RD9 := Lib.hid ((RD8.out.alloc (Nat.le_refl _) _).grown (Nat.le_refl _) gr9 (fun k hk => by have := HRT.out k hk; omega)); have BE9 := Lib.hid ((BE8.out.alloc (by omega) _).grown gr9 (by simp; omega) (fun k hk => by have := HRT.out k hk; omega)); clear own9 gr9 at9)
            | (go_simp; go_at_call 56; (with_reducible refine (batop_any g g l false _ RDD.out (Nat.le_refl _)).mono ?_); rintro ev w8 ⟨rfl, rd8, gr8⟩; rw [← HY.out] at rd8 ⊢; have AT8 := Lib.hid (ATD.out.grown gr8 (fun k hk => by injection hk with hk; omega)); obtain ⟨s0, s1, s2, sz⟩ := AT8.out.c3; have OW8 := Lib.hid (OWD.out.kept gr8 (fun k hk => ⟨fun e => (by have h1 := HRT.out k e; injection hk with hk; omega), id⟩)); have hs8 : T < w8.heap.size := AT8.out.lt; have RD8 := Lib.hid rd8; have BE8 := Lib.hid ((below_drewN BE.out 1).grown gr8 (Nat.le_of_lt (Nat.lt_trans hgT hTs)) (fun k hk => by injection hk with hk; omega)); clear rd8 gr8)
            | fail)
          all_goals
            go_wp2_with fail
            go_roundw
            case rel => exact ⟨q, lq, bq, acc ++ [y], _, by go_num, by rw [List.length_append]; simp only [List.length_cons, List.length_nil]; omega, HNX.out, HWQ.out.2, RD9.out.stored (Nat.le_refl _) hgT 1 _, OW9.out.kept (grownBy_set w9 ⟨T, 1, none⟩ _) (fun k hk => ⟨fun e => (by have h1 := OW9.out.row_ge e; injection hk with hk; dsimp only at hk; omega), id⟩), AT9.out.put (by simp) _ rfl, BE9.out.setCell (Nat.le_of_lt hgT) _⟩
            case measure => simp [intOf]
    case rest =>
      obtain ⟨v2, hwf, hl16, hrd, hown, hat, hbel⟩ := hcut
      have hTs := hat.lt
      have RD := Lib.hid hrd
      have OW := Lib.hid hown
      have AT := Lib.hid hat
      have BE := Lib.hid hbel
      have HRT : Hid (∀ q, rowOf v2 = some q → T < q) := Lib.hid (fun q hq => Nat.lt_of_succ_le (OW.out.row_ge hq))
      obtain ⟨Y, hY⟩ : ∃ Y, Y = wc.heap.size := ⟨_, rfl⟩
      have HRY := Lib.hid (show ∀ q, rowOf v2 = some q → q < Y by rw [hY]; exact fun q hq => OW.out.row_lt hq)
      have hTY : T < Y := by rw [hY]; exact hTs
      have HY0 := Lib.hid hY
      have hx6 := smallP_wf hwf b5 256 (by omega)
      rw [← HR6.out] at hx6
      have HW6 := Lib.hid hx6.2.2
      obtain ⟨k6, hk6⟩ := Int.eq_ofNat_of_zero_le hx6.1
      have hk62 : k6 ≤ 256 := by have := hx6.2.1; (try dsimp only at *); omega
      dsimp only at hk6
      subst hk6
      clear hY hx6 hat hrd hown hbel hwf RD6 T6 BE6 HR5 HW4
      go_upto_block 2 with (first
        | (go_at_call 54; (with_reducible refine (psmall_any _ g l5 b5 256 _ RD.out (Nat.le_refl _)).mono ?_); rintro ev w10 ⟨rfl, rd10, gr10⟩; rw [← HR6.out] at rd10 ⊢; have RD10 := Lib.hid rd10; have AT10 := Lib.hid (AT.out.grown gr10 (fun k hk => by injection hk with hk; omega)); have OW10 := Lib.hid (OW.out.kept gr10 (fun k hk => ⟨fun e => (by have h1 := HRT.out k e; injection hk with hk; omega), id⟩)); have BE10 := Lib.hid (BE.out.grown gr10 (by omega) (fun k hk => by injection hk with hk; omega)); have hY10 : Y ≤ w10.heap.size := (by have := gr10.size; have := HY0.out; omega); clear rd10 gr10)
        | fail)
      go_cut [9] (fun i wx => ∃ v3 : Value, ts.length ≤ 256 ∧ PRd wx g g l7 b7 ∧ Own oprRep wx (T + 1) (fun _ => False) 29 v2 cs ∧ Own noteRep wx Y (fun _ => False) 27 v3 ts ∧ Blk wx T [.int .i64 x1, v2, v3] ∧ Below g w2 wx ∧ Y ≤ wx.heap.size)
      case first =>
        go_wp2_with fail
        go_loopw [9] (fun i wr => ∃ (k : Nat) (l : List Fld) (bad : Bool) (acc2 : List Note) (v3 : Value), i = .int .i64 k ∧ acc2.length + k ≤ 256 ∧ rdMany rdNote k l bad acc2 = (ts, l7, b7) ∧ wfL l ∧ PRd wr g g l bad ∧ Own oprRep wr (T + 1) (fun _ => False) 29 v2 cs ∧ Own noteRep wr Y (fun _ => False) 27 v3 acc2 ∧ Blk wr T [.int .i64 x1, v2, v3] ∧ Below g w2 wr ∧ Y ≤ wr.heap.size) (fun i _ => (intOf i).toNat)
        case atStart => exact ⟨k6, l6, b6, [], _, rfl, by simpa using hk62, by have := HR7.out; rw [Int.toNat_natCast] at this; exact this.symm, HW6.out, RD10.out, OW10.out, Own.nil _ _ _ (fun _ h => h.elim) _ _, AT10.out, BE10.out, hY10⟩
        case round =>
          obtain ⟨k, l, bad, acc2, v3, rfl, hlen, hrest, hwf, hrd, hown, hown3, hat, hbel, hYs⟩ := hrel
          have hTs := hat.lt
          have RD := Lib.hid hrd
          have OW := Lib.hid hown
          have OV := Lib.hid hown3
          have AT := Lib.hid hat
          have BE := Lib.hid hbel
          have HRE := Lib.hid hrest
          have HWF := Lib.hid hwf
          have HRV : Hid (∀ q, rowOf v3 = some q → Y ≤ q) := Lib.hid (fun q hq => OV.out.row_ge hq)
          clear hrd hown hown3 hbel hrest hwf RD10 OW10 AT10 BE10 hY10
          by_cases hex : k = 0 ∨ bad = true
          · have hf := HRE.out
            rw [rdMany_stop hex] at hf
            injection hf with e1 e2
            injection e2 with e2 e3
            subst e1 e2 e3
            clear hat HRE
            by_cases hk0 : k = 0
            · subst hk0
              clear hex
              go_wp2_with fail
              go_meet
              case rel => exact ⟨v3, by omega, RD.out, OW.out, OV.out, AT.out, BE.out, hYs⟩
            · obtain rfl : bad = true := hex.resolve_left hk0
              have hd : decide ((0 : Int) < (k : Int)) = true := decide_eq_true (by omega)
              have hdn : decide (0 < k) = true := decide_eq_true (by omega)
              clear hex hk0
              go_wp2_with (first
                | (go_at_call 55; (with_reducible refine (pmore_any g g l true _ RD.out (Nat.le_refl _)).mono ?_); rintro ev w' ⟨rfl, rfl⟩)
                | fail)
              go_meet
              case rel => exact ⟨v3, by omega, RD.out, OW.out, OV.out, AT.out, BE.out, hYs⟩
          · obtain ⟨q, rfl⟩ : ∃ q, k = q + 1 := ⟨k - 1, by omega⟩
            have hbad : bad = false := by cases bad; rfl; exact absurd (.inr rfl) hex
            subst hbad
            have hd : decide ((0 : Int) < ((q + 1 : Nat) : Int)) = true := decide_eq_true (by omega)
            have hdn : decide (0 < q + 1) = true := decide_eq_true (by omega)
            obtain ⟨t0, t1, t2, tz⟩ := hat.c3
            obtain ⟨⟨y, lq, bq⟩, hy⟩ : ∃ a, a = rdNote l false := ⟨_, rfl⟩
            have hwq := rdNote_wf l false HWF.out
            rw [← hy] at hwq
            have HWQ := Lib.hid hwq
            have HY := Lib.hid hy
            have HNX := Lib.hid (show rdMany rdNote q lq bq (acc2 ++ [y]) = (ts, l7, b7) by have h := HRE.out; rw [rdMany_next, ← hy] at h; exact h)
            have RDD := Lib.hid RD.out.drew
            have ATD := Lib.hid AT.out.drew
            have OWD := Lib.hid OW.out.drew
            have OVD := Lib.hid OV.out.drew
            clear hy hwq hex hat
            go_wp2_with (first
              | (go_at_call 55; (with_reducible refine (pmore_any g g l false _ RD.out (Nat.le_refl _)).mono ?_); rintro ev w' ⟨rfl, rfl⟩)
              | fail)
            go_region_law (first
              | (refine step_append_Own _ rfl (.tmp 52) (.tmp 55) 23 rfl Y 27 j0 _ 56 Try.underlying23 ji jz0 jz1 jz2 rfl (R := noteRep) (S := fun _ => False) (l := acc2) (l' := [y]) v3 rfl (OV8.out.alloc _) _ 1 1 rfl (Src.new (cs := y.cells) ⟨rfl, HWQ.out.1⟩) (by simp only [maxLen]; omega) (by omega) (by omega) (by simp; omega) ?_; intro v9 w9 own9 gr9 at9; obtain ⟨A9, c9, hv9, hlc9, hcm9, sl9⟩ := own9.isSlB; obtain ⟨m9, hm9⟩ : ∃ m9, m9 = (acc2 ++ [y]).length := ⟨_, rfl⟩; rw [← hm9] at hv9; subst hv9; clear hm9 hlc9 hcm9 sl9; have AT9 := Lib.hid ((AT8.out.alloc _).grown gr9 (fun k hk e => by have := HRV.out k hk; omega)); obtain ⟨s0, s1, s2, sz⟩ := AT9.out.c3; have OV9 := Lib.hid own9; have OW9 := Lib.hid ((OW8.out.alloc _).kept gr9 (fun k hk => ⟨fun e => (by have h1 := HRV.out k hk; have h2 := HRY.out k e; omega), id⟩)); have hYs9 : Y ≤ w9.heap.size := (by have := gr9.size; simp at this; omega); have RD9 := Lib.hid ((RD8.out.alloc (Nat.le_refl _) _).grown (Nat.le_refl _) gr9 (fun k hk => by have := HRV.out k hk; omega)); have BE9 := Lib.hid ((BE8.out.alloc (by omega) _).grown gr9 (by simp; omega) (fun k hk => by have := HRV.out k hk; omega)); clear own9 gr9 at9)
              | (go_simp; go_at_call 57; (with_reducible refine (batnote_any g g l false _ RDD.out (Nat.le_refl _)).mono ?_); rintro ev w8 ⟨rfl, rd8, gr8⟩; rw [← HY.out] at rd8 ⊢; have AT8 := Lib.hid (ATD.out.grown gr8 (fun k hk => by injection hk with hk; omega)); obtain ⟨s0, s1, s2, sz⟩ := AT8.out.c3; have OW8 := Lib.hid (OWD.out.kept gr8 (fun k hk => ⟨fun e => (by have h1 := HRT.out k e; injection hk with hk; omega), id⟩)); have OV8 := Lib.hid (OVD.out.kept gr8 (fun k hk => ⟨fun e => (by have h1 := HRV.out k e; injection hk with hk; omega), id⟩)); have hYs8 : Y ≤ w8.heap.size := (by have := gr8.size; exact Nat.le_trans hYs this); have hs8 : T < w8.heap.size := AT8.out.lt; have RD8 := Lib.hid rd8; have BE8 := Lib.hid ((below_drewN BE.out 1).grown gr8 (Nat.le_of_lt (Nat.lt_trans hgT hTs)) (fun k hk => by injection hk with hk; omega)); clear rd8 gr8)
              | fail)
            all_goals
              go_wp2_with fail
              go_roundw
              case rel => exact ⟨q, lq, bq, acc2 ++ [y], _, by go_num, by rw [List.length_append]; simp only [List.length_cons, List.length_nil]; omega, HNX.out, HWQ.out.2, RD9.out.stored (Nat.le_refl _) hgT 2 _, OW9.out.kept (grownBy_set w9 ⟨T, 2, none⟩ _) (fun k hk => ⟨fun e => (by have h1 := OW9.out.row_ge e; injection hk with hk; dsimp only at hk; omega), id⟩), OV9.out.kept (grownBy_set w9 ⟨T, 2, none⟩ _) (fun k hk => ⟨fun e => (by have h1 := OV9.out.row_ge e; injection hk with hk; dsimp only at hk; omega), id⟩), AT9.out.put (by simp) _ rfl, BE9.out.setCell (Nat.le_of_lt hgT) _, by simpa using hYs9⟩
              case measure => simp [intOf]
      case rest =>
        clear RD OW AT BE RD10 OW10 AT10 BE10 hY10 HR7 HW6
        obtain ⟨v3, hl6, hrd, hown, hown3, hat, hbel, hYs⟩ := hcut
        have hTs := hat.lt
        have RD := Lib.hid hrd
        have OW := Lib.hid hown
        have OV := Lib.hid hown3
        have AT := Lib.hid hat
        have BE := Lib.hid hbel
        have R0 := Lib.hid (R2.out.below BE.out (by omega))
        clear hrd hown hown3 hat hbel
        have BEw := Lib.hid (BEL2.out.trans (BE.out.mono (by omega)))
        have HRD2 := Lib.hid (show rdItem (decV b) = (⟨x1, cs, ts⟩, l7, b7) by rw [← HLL.out]; exact HRD.out)
        cases hd : (!b7 && l7.isEmpty)
        · have HD := Lib.hid hd
          have HX := Lib.hid (show decIV b = item0 ∧ decIE b = 3 from decG_no (z := item0) (may := mayItem) HE.out HRD2.out (by rintro ⟨rfl, rfl, _⟩; cases hd))
          obtain ⟨r0, r1, r2, q2⟩ := R0.out.c3
          have hRs := R0.out.lt
          clear hd
          go_wp2_with (first
            | (go_at_call 58; (with_reducible refine (pdone_any g g l7 b7 _ RD.out (Nat.le_refl _)).mono ?_); rintro ev w' ⟨rfl, rfl⟩; rw [HD.out])
            | fail)
          refine bodyPost_ret (by simp [results, Try.results24, go_sem, r0, r1, r2]; try rfl) rfl ?_
          rw [HX.out.1, HX.out.2]
          exact ⟨none, 0, 0, none, 0, 0, rfl, IsSl.nil, Nat.le_refl _, Nat.zero_le _, IsSl.nil, Nat.le_refl _, Nat.zero_le _, set3_below BEw.out (Nat.le_refl _) _ _ _⟩
        · have HD := Lib.hid hd
          obtain ⟨rfl, rfl⟩ : b7 = false ∧ l7 = [] := by
            cases b7 <;> cases l7 <;> simp at hd ⊢
          obtain ⟨Ac, cc, hvc, hlc, hmc, slc⟩ := OW.out.isSlR
          subst hvc
          obtain ⟨As, cs', hvs, hls, hms, sls⟩ := OV.out.isSlR
          subst hvs
          obtain ⟨t0, t1, t2, y2⟩ := AT.out.c3
          obtain ⟨r0, r1, r2, q2⟩ := R0.out.c3
          have hRs := R0.out.lt
          have SLC := Lib.hid slc
          have SLS := Lib.hid sls
          obtain ⟨nc, hnc⟩ : ∃ nc, nc = cs.length := ⟨_, rfl⟩
          obtain ⟨ns, hns⟩ : ∃ ns, ns = ts.length := ⟨_, rfl⟩
          rw [← hnc] at SLC hlc t1
          try rw [← hnc]
          rw [← hns] at SLS hls t2
          try rw [← hns]
          clear hd OW OV AT HRT HRY hnc hns slc sls
          have HM0 : Hid (Calls Try.prog 20 #[.agg #[.int .i64 x1, .slice Ac nc cc, .slice As ns cs']] wc fun e w' => e = .returned (.bool (mayItem ⟨x1, cs, ts⟩)) ∧ Below wc.heap.size wc w') := Lib.hid (batMay_any ⟨x1, cs, ts⟩ Ac nc cc As ns cs' wc (SLC.out.weak fun _ h => h.2) (SLS.out.weak fun _ h => h.2) hlc hmc hls hms)
          cases hm : mayItem ⟨x1, cs, ts⟩
          · have HM := Lib.hid hm
            have HX := Lib.hid (show decIV b = item0 ∧ decIE b = 3 from decG_no (z := item0) (may := mayItem) HE.out HRD2.out (by rintro ⟨_, _, h⟩; rw [hm] at h; cases h))
            clear hm
            go_wp2_with (first
              | (go_at_call 58; (with_reducible refine (pdone_any g g [] false _ RD.out (Nat.le_refl _)).mono ?_); rintro ev w' ⟨rfl, rfl⟩; rw [HD.out])
              | (go_at_call 20; (with_reducible refine HM0.out.mono ?_); rintro ev w11 ⟨rfl, bel11⟩; rw [HM.out]; obtain ⟨r0, r1, r2, q2⟩ := (R0.out.after bel11).c3; have hRs := Nat.lt_of_lt_of_le hRs bel11.size; have BEX := Lib.hid (BEw.out.trans (bel11.mono BEw.out.size)); clear bel11)
              | fail)
            refine bodyPost_ret (by simp [results, Try.results24, go_sem, r0, r1, r2]; try rfl) rfl ?_
            rw [HX.out.1, HX.out.2]
            exact ⟨none, 0, 0, none, 0, 0, rfl, IsSl.nil, Nat.le_refl _, Nat.zero_le _, IsSl.nil, Nat.le_refl _, Nat.zero_le _, set3_below BEX.out (Nat.le_refl _) _ _ _⟩
          · have HM := Lib.hid hm
            have HX := Lib.hid (show decIV b = ⟨x1, cs, ts⟩ ∧ decIE b = 0 from decG_ok (z := item0) (may := mayItem) HE.out HRD2.out hm)
            clear hm
            go_wp2_with (first
              | (go_at_call 58; (with_reducible refine (pdone_any g g [] false _ RD.out (Nat.le_refl _)).mono ?_); rintro ev w' ⟨rfl, rfl⟩; rw [HD.out])
              | (go_at_call 20; (with_reducible refine HM0.out.mono ?_); rintro ev w11 ⟨rfl, bel11⟩; rw [HM.out]; obtain ⟨r0, r1, r2, q2⟩ := (R0.out.after bel11).c3; have t0 := (bel11.cell (p := ⟨T, 0, none⟩) hTs).trans t0; have t1 := (bel11.cell (p := ⟨T, 1, none⟩) hTs).trans t1; have t2 := (bel11.cell (p := ⟨T, 2, none⟩) hTs).trans t2; have hRs := Nat.lt_of_lt_of_le hRs bel11.size; have BEX := Lib.hid (BEw.out.trans (bel11.mono BEw.out.size)); have SC := Lib.hid (SLC.out.keep fun p hp => bel11.cell hp.2); have SS := Lib.hid (SLS.out.keep fun p hp => bel11.cell hp.2); have hs11 := bel11.size; clear bel11)
              | fail)
            refine bodyPost_ret (by simp [results, Try.results24, go_sem, r0, r1, r2]; try rfl) rfl ?_
            rw [HX.out.1, HX.out.2]
            exact ⟨Ac, nc, cc, As, ns, cs', rfl, (set3_keep SC.out (by omega) _ _ _).weak (fun b hb => by simp at hs11 ⊢; omega), hlc, hmc, (set3_keep SS.out (by omega) _ _ _).weak (fun b hb => by simp at hs11 ⊢; omega), hls, hms, set3_below BEX.out (Nat.le_refl _) _ _ _⟩
  · have HX := Lib.hid (show decIV b = item0 ∧ decIE b = decE b from decG_err (z := item0) (may := mayItem) he)
    obtain ⟨e0, he0⟩ : ∃ e0, e0 = decE b := ⟨_, rfl⟩
    have hb1 : (e0 == 0) = false := by rw [he0]; simpa using he
    have hb2 : (e0 != 0) = true := by rw [he0]; simpa using he
    have HE0 := Lib.hid he0
    clear he he0
    go_enter Try.func24, Try.ntmps24
    go_wp2_with (first
      | (go_at_call 51; (with_reducible refine (decode_any A n c b _ ((H.out.below (bw0 _)).more (by simp)) h1 h2).mono ?_); rintro ev w2 ⟨v2, rfl, own2, bel2⟩; rw [← HE0.out]; have R0 := Lib.hid ((Blk.new (w := w) (cs := #[.int .i64 0, .slice none 0 0, .slice none 0 0]) (t := 25) rfl rfl).after bel2); obtain ⟨r0, r1, r2, q2⟩ := R0.out.c3; have hRs := R0.out.lt; have BEX := Lib.hid ((bw0 _).trans (bel2.mono (by simp))); clear own2 bel2)
      | fail)
    refine bodyPost_ret (by simp [results, Try.results24, go_sem, r0, r1, r2]; try rfl) rfl ?_
    rw [HX.out.1, HX.out.2, ← HE0.out]
    exact ⟨none, 0, 0, none, 0, 0, rfl, IsSl.nil, Nat.le_refl _, Nat.zero_le _, IsSl.nil, Nat.le_refl _, Nat.zero_le _, set3_below BEX.out (Nat.le_refl _) _ _ _⟩

end Go.Proofs.Ytcohheoahdbgmaa
