/- Contract: image.rows. Written by gen_img5.py. -/
import Derived.Test.YthhpddiicnjmmaaImg1
import Derived.Test.YthhpddiicnjmmaaRowK
import Derived.Test.YthhpddiicnjmmaaPce1
import Derived.Test.YthhpddiicnjmmaaRefP
import Derived.Deep.RegionHeld3
set_option linter.unusedVariables false
set_option linter.unusedSimpArgs false
set_option maxRecDepth 100000
namespace Go.Proofs.Ythhpddiicnjmmaa
open Go.RowKit

set_option maxRecDepth 100000 in
set_option maxHeartbeats 1000000 in
theorem pmore_any (B g : Nat) (l : List Fld) (bad : Bool) (w : World) (h : PRd w B g l bad) (hg : B ≤ g) :
    Calls Try.prog 127 #[.pointer (some ⟨g, 0, none⟩)] w fun ev w' => ev = .returned (.bool (!bad)) ∧ w = w' := by
  obtain ⟨A, n, c, c0, c1, hz⟩ := h
  clear hz
  cases bad
  all_goals
    go_enter Try.func127, Try.ntmps127
    go_wp2
    go_ret
    exact ⟨rfl, rfl⟩

theorem rdRow_wf (l : List Fld) (bad : Bool) (h : wfL l) : (rdRow l bad).1.wf ∧ wfL (rdRow l bad).2.1 := by
  have h1 := intP_wf h bad
  have h2 := textP_wf h1.2 (intP l bad).2.2
  exact ⟨⟨h1.1, h2.1⟩, h2.2⟩

set_option maxHeartbeats 8000000 in
theorem imgRows_any (B g : Nat) (l : List Fld) (bad : Bool) (w : World) (h : PRd w B g l bad) (hg : B ≤ g) (hwf : wfL l) :
    Calls Try.prog 65 #[.pointer (some ⟨g, 0, none⟩)] w fun ev w' => ∃ v, ev = .returned v ∧ Own rowRep w' w.heap.size (fun _ => False) 80 v (rdTab l bad).1 ∧ PRd w' B g (rdTab l bad).2.1 (rdTab l bad).2.2 ∧ w.grownBy w' (some g) := by
  obtain ⟨i0, hi, hz0, hz1, hz2⟩ := info_parts info_row
  have H := Lib.hid h
  have hgw := h.lt
  obtain ⟨⟨x1, l1, b1⟩, h1⟩ : ∃ a, a = smallP l bad 1000 := ⟨_, rfl⟩
  obtain ⟨⟨rs, l2, b2⟩, h2⟩ : ∃ a, a = rdTab l bad := ⟨_, rfl⟩
  have hq1 := smallP_wf hwf bad 1000 (by omega)
  rw [← h1] at hq1
  have HW1 := Lib.hid hq1.2.2
  have hx1 : 0 ≤ x1 ∧ x1 ≤ 1000 := ⟨hq1.1, hq1.2.1⟩
  have HR := Lib.hid (show rdMany rdRow x1.toNat l1 b1 [] = (rs, l2, b2) by rw [h2]; unfold rdTab; rw [← h1])
  have H1 := Lib.hid h1
  rw [← h2]
  dsimp only
  clear h hwf hq1 h1 h2
  obtain ⟨k1, rfl⟩ := Int.eq_ofNat_of_zero_le hx1.1
  have hk1 : k1 ≤ 1000 := by omega
  clear hx1
  go_enter Try.func65, Try.ntmps65
  go_wp2_with (first
    | (go_at_call 64; (with_reducible refine (psmall_any B g l bad 1000 w H.out hg).mono ?_); rintro ev w1 ⟨rfl, rd1, gr1⟩; rw [← H1.out] at rd1 ⊢; have RD1 := Lib.hid rd1; have GR1 := Lib.hid gr1; clear rd1 gr1)
    | fail)
  go_loopw [3, 4] (fun v i wr => ∃ (k : Nat) (l : List Fld) (bad : Bool) (acc : List Row), i = .int .i64 k ∧ acc.length + k ≤ 1000 ∧ rdMany rdRow k l bad acc = (rs, l2, b2) ∧ wfL l ∧ PRd wr B g l bad ∧ Own rowRep wr w.heap.size (fun _ => False) 80 v acc ∧ w.grownBy wr (some g)) (fun _ i _ => (intOf i).toNat)
  case atStart => exact ⟨k1, l1, b1, [], rfl, by simpa using hk1, by have := HR.out; rw [Int.toNat_natCast] at this; exact this, HW1.out, RD1.out, Own.nil _ _ _ (fun _ h => h.elim) _ _, GR1.out⟩
  case round =>
    obtain ⟨k, l, bad, acc, rfl, hlen, hrest, hwf, hrd, hown, hgr⟩ := hrel
    have RD := Lib.hid hrd
    have OW := Lib.hid hown
    have GR := Lib.hid hgr
    have HRE := Lib.hid hrest
    have HWF := Lib.hid hwf
    have hsz := hgr.size
    have HNG : Hid (∀ q, rowOf u3 = some q → q ≠ g) := Lib.hid (fun q hq => by have := OW.out.row_ge hq; omega)
    clear hrd hown hgr hrest hwf
    by_cases hex : k = 0 ∨ bad = true
    · have hf := HRE.out
      rw [rdMany_stop hex] at hf
      injection hf with e1 e2
      injection e2 with e2 e3
      subst e1 e2 e3
      by_cases hk0 : k = 0
      · subst hk0
        clear hex HRE
        go_wp2_with fail
        go_ret
        exact ⟨_, rfl, OW.out, RD.out, GR.out⟩
      · obtain rfl : bad = true := hex.resolve_left hk0
        have hd : decide ((0 : Int) < (k : Int)) = true := decide_eq_true (by omega)
        have hdn : decide (0 < k) = true := decide_eq_true (by omega)
        clear hex hk0 HRE
        go_wp2_with (first
          | (go_at_call 127; (with_reducible refine (pmore_any B g l true _ RD.out hg).mono ?_); rintro ev w' ⟨rfl, rfl⟩)
          | fail)
        go_ret
        exact ⟨_, rfl, OW.out, RD.out, GR.out⟩
    · obtain ⟨q, rfl⟩ : ∃ q, k = q + 1 := ⟨k - 1, by omega⟩
      have hbad : bad = false := by cases bad; rfl; exact absurd (.inr rfl) hex
      subst hbad
      have hd : decide ((0 : Int) < ((q + 1 : Nat) : Int)) = true := decide_eq_true (by omega)
      have hdn : decide (0 < q + 1) = true := decide_eq_true (by omega)
      obtain ⟨⟨ya, la, ba⟩, ha⟩ : ∃ a, a = intP l false := ⟨_, rfl⟩
      obtain ⟨⟨yv, lv, bv⟩, hv⟩ : ∃ a, a = textP la ba := ⟨_, rfl⟩
      have hrow : rdRow l false = (⟨ya, yv⟩, lv, bv) := by unfold rdRow; rw [← ha]; dsimp only; rw [← hv]
      have hwq := rdRow_wf l false HWF.out
      rw [hrow] at hwq
      have HWQ := Lib.hid hwq
      have HA := Lib.hid ha
      have HV := Lib.hid hv
      have HNX := Lib.hid (show rdMany rdRow q lv bv (acc ++ [⟨ya, yv⟩]) = (rs, l2, b2) by have h := HRE.out; rw [rdMany_next, hrow] at h; exact h)
      clear ha hv hrow hwq hex HRE
      go_wp2_with (first
        | (go_at_call 127; (with_reducible refine (pmore_any B g l false _ RD.out hg).mono ?_); rintro ev w' ⟨rfl, rfl⟩)
        | (go_at_call 63; (with_reducible refine (pint_any B g l false _ RD.out hg).mono ?_); rintro ev w5 ⟨rfl, rd5, gr5⟩; rw [← HA.out] at rd5 ⊢; have RD5 := Lib.hid rd5; have O5 := Lib.hid (OW.out.kept gr5 (fun k hk => ⟨fun e => HNG.out _ e (by injection hk with hk; exact hk.symm), id⟩)); have G5 := Lib.hid (grown_trans GR.out gr5); have hs5 := G5.out.size; clear rd5 gr5)
        | (go_at_call 128; (with_reducible refine (ptext_any B g la ba _ RD5.out hg).mono ?_); rintro ev w6 ⟨rfl, rd6, gr6⟩; rw [← HV.out] at rd6 ⊢; have RD6 := Lib.hid rd6; have O6 := Lib.hid (O5.out.kept gr6 (fun k hk => ⟨fun e => HNG.out _ e (by injection hk with hk; exact hk.symm), id⟩)); have G6 := Lib.hid (grown_trans G5.out gr6); have hs6 := G6.out.size; have hg6 := rd6.lt; clear rd6 gr6)
        | (at_builtin; refine wpList_append_Own _ rfl _ _ 81 rfl w.heap.size 80 i0 _ 24 Try.underlying81 hi hz0 hz1 hz2 rfl (R := rowRep) (S := fun _ => False) (l := acc) (l' := [(⟨ya, yv⟩ : Row)]) u3 rfl (O6.out.alloc _) _ 1 1 rfl (Src.new (a := (⟨ya, yv⟩ : Row)) (cs := (⟨ya, yv⟩ : Row).cells) ⟨rfl, HWQ.out.1⟩) (by simp only [maxLen]; omega) (by omega) (by omega) (by simp; omega) ?_; intro v8 w8 own8 gr8 at8; have OW8 := Lib.hid own8; have RD8 := Lib.hid ((RD6.out.alloc hg _).grown hg gr8 (fun k hk => ⟨by have := OW.out.row_ge hk; omega, HNG.out k hk⟩)); have G8 := Lib.hid (grown_far (grown_trans G6.out (World.grownBy_alloc w6 _ (some g))) gr8 (fun k hk => OW.out.row_ge hk)); clear own8 gr8 at8)
        | fail)
      go_roundw
      case rel => exact ⟨q, lv, bv, acc ++ [⟨ya, yv⟩], by go_num, by rw [List.length_append, List.length_cons, List.length_nil]; omega, HNX.out, HWQ.out.2, RD8.out, OW8.out, G8.out⟩
      case measure => simp [intOf]
end Go.Proofs.Ythhpddiicnjmmaa
