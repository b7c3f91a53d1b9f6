/- Contract: ref07.FromImage. Written by gen_img5.py. -/
import Derived.Test.YthhpddiicnjmmaaImg6
import Derived.Test.YthhpddiicnjmmaaImg2
import Derived.Test.YthhpddiicnjmmaaRefQ
import Derived.Test.YthhpddiicnjmmaaRec6
import Derived.Test.YthhpddiicnjmmaaFld7
set_option linter.unusedVariables false
set_option linter.unusedSimpArgs false
set_option maxRecDepth 100000
namespace Go.Proofs.Ythhpddiicnjmmaa
open Go.RowKit

theorem Src.newAt {α : Type} {R : Rep α} {w : World} {S : Nat → Prop} {e : TypeId} {a : α} {cs : List Value} {n : Nat} (hn : n = w.heap.size) (h : R.rel (w.alloc (.cells cs.toArray e)) S a cs) : Src R (w.alloc (.cells cs.toArray e)) S (some ⟨n, 0, none⟩) 1 [a] := by
  subst hn; exact Src.new h

theorem RRd.badc {w : World} {B g : Nat} {r : List Fld} {bad : Bool} (h : RRd w B g r bad) : w.cell? ⟨g, 2, none⟩ = some (.bool bad) := by
  obtain ⟨A, n, c, at_, l, c0, c1, c2, _⟩ := h
  exact c2
theorem rfrom_err {b : List UInt8} (h : isRec b) (he : ¬ decE (takeV b) = 0) : fromV b = img0 ∧ fromE b = 3 := from_err h he
theorem rfrom_no {b : List UInt8} (h : isRec b) (he : decE (takeV b) = 0) {t : Img} {l : List Fld} {bad : Bool} (hr : rrImg (decV (takeV b)) = (t, l, bad)) (hn : ¬ (bad = false ∧ l = [] ∧ mayImg t = true)) : fromV b = img0 ∧ fromE b = 3 := by
  have h1 := decG_no (may := mayImg) (z := img0) he hr hn
  have h2 := img_same (takeV b)
  refine ⟨(if_pos h).trans (h2.1.symm.trans h1.1), if_neg (fun h3 => ?_)⟩
  rw [← h2.2, h1.2] at h3
  exact absurd h3.2 (by decide)
theorem rfrom_yes {b : List UInt8} (h : isRec b) (he : decE (takeV b) = 0) {t : Img} (hr : rrImg (decV (takeV b)) = (t, [], false)) (hm : mayImg t = true) : fromV b = t ∧ fromE b = 0 := by
  have h1 := decG_ok (z := img0) he hr hm
  have h2 := img_same (takeV b)
  exact ⟨(if_pos h).trans (h2.1.symm.trans h1.1), if_pos ⟨h, h2.2.symm.trans h1.2⟩⟩
theorem rrRow_wf (l : List Fld) (bad : Bool) (h : wfL l) : (rrRow l bad).1.wf ∧ wfL (rrRow l bad).2.1 := by
  have h1 := rintP_wf h bad 1099511627776 (by omega)
  have h2 := rtextP_wf h1.2.2 (rintP l bad 1099511627776).2.2
  exact ⟨⟨(by show I64 (rintP l bad 1099511627776).1; unfold I64; omega), h2.1⟩, h2.2⟩

set_option maxHeartbeats 16000000 in
theorem refFromImage_any (A : Option Addr) (n c : Nat) (b : List UInt8) (w : World) (h : IsSl byteRep w (· < w.heap.size) A n b) (h1 : n ≤ c) (h2 : c ≤ maxLen) :
    Calls Try.prog 23 #[.slice A n c] w fun e w' => ∃ A2 n2 c2, e = .returned (.tuple #[.int .i64 (fromV b).1, .slice A2 n2 c2, .int .i64 (fromE b)]) ∧ IsSl (sliceRep rowRep) w' (· < w'.heap.size) A2 n2 (fromV b).2 ∧ n2 ≤ c2 ∧ c2 ≤ maxLen ∧ Below w.heap.size w w' := by
  obtain ⟨i0, hi, hz0, hz1, hz2⟩ := info_parts info_tab
  obtain ⟨j0, ji, jz0, jz1, jz2⟩ := info_parts info_row
  have HH := Lib.hid h
  have HL := Lib.hid h.len
  clear h
  by_cases hE : takeE b = 0
  · have HE := Lib.hid hE
    by_cases hK : takeK b = b.length
    · have HK := Lib.hid (show takeK b = n by rw [hK, ← HL.out])
      have HRC := Lib.hid (show isRec b from ⟨hE, hK⟩)
      clear hE hK
      by_cases hD : decE (takeV b) = 0
      · have HD := Lib.hid hD
        clear hD
        obtain ⟨L, hLe⟩ : ∃ L, L = decV (takeV b) := ⟨_, rfl⟩
        have HLE := Lib.hid hLe
        obtain ⟨⟨x1, l1', b1⟩, e1⟩ : ∃ a, a = rintP L false 1099511627776 := ⟨_, rfl⟩
        obtain ⟨⟨x2, l2', b2⟩, e2⟩ : ∃ a, a = rintP l1' b1 8 := ⟨_, rfl⟩
        obtain ⟨⟨ts, l3', b3⟩, e3⟩ : ∃ a, a = rdMany rrTab x2.toNat l2' b2 [] := ⟨_, rfl⟩
        have HRI := Lib.hid (show rrImg (decV (takeV b)) = ((x1, ts), l3', b3) by rw [← hLe]; unfold rrImg; rw [← e1]; dsimp only; rw [← e2]; dsimp only; rw [← e3])
        have H1 := Lib.hid e1
        have H2 := Lib.hid e2
        have H3 := Lib.hid e3
        clear hLe e1 e2 e3
        go_enter Try.func23, Try.ntmps23
        go_wp2_with (first
          | (go_at_call 68; (with_reducible refine (reftake_any A n c b w HH.out h1 h2).mono ?_); rintro e w1 ⟨v1, rfl, own1, bel1⟩; rw [HE.out, HK.out]; obtain ⟨A1, c1, rfl, l1, m1, sl1⟩ := own1.isSlB; have SL1 := Lib.hid sl1; have B1 := Lib.hid bel1; clear own1 sl1 bel1)
          | (go_at_call 69; (with_reducible refine (refdecode_any A1 (takeV b).length c1 (takeV b) w1 SL1.out l1 m1).mono ?_); rintro e w2 ⟨v2, rfl, own2, bel2⟩; rw [HD.out]; rw [← HLE.out] at own2; have B2 := Lib.hid (bel_n B1.out bel2); obtain ⟨A2, c2, rfl, l2, m2, sl2⟩ := own2.isSlB; have SL2 := Lib.hid sl2; have HWL := Lib.hid sl2.wfL; have RD2 := Lib.hid (RRd.new sl2 l2 m2 138); clear sl2; clear own2 bel2)
          | (go_at_call 70; (with_reducible refine (rint_any _ w2.heap.size L false 1099511627776 _ RD2.out (Nat.le_refl _)).mono ?_); rintro ev w4 ⟨rfl, rd4, gr4⟩; rw [← H1.out] at rd4 ⊢; have RD4 := Lib.hid rd4; have B4 := Lib.hid ((B2.out.alloc B2.out.size _).grown gr4 (by have := B2.out.size; simp; omega) (fun k hk => by injection hk with hk; have := B2.out.size; omega)); have hs4 := gr4.size; clear rd4 gr4)
          | (go_at_call 70; (with_reducible refine (rint_any _ w2.heap.size l1' b1 8 w4 RD4.out (Nat.le_refl _)).mono ?_); rintro ev w5 ⟨rfl, rd5, gr5⟩; rw [← H2.out] at rd5 ⊢; have RD5 := Lib.hid rd5; have B5 := Lib.hid (B4.out.grown gr5 B4.out.size (fun k hk => by injection hk with hk; have := B2.out.size; omega)); have hs5 := gr5.size; clear rd5 gr5)
          | fail)
        have hw1 := rintP_wf HWL.out false 1099511627776 (by omega)
        rw [← H1.out] at hw1
        have hw2 := rintP_wf hw1.2.2 b1 8 (by omega)
        rw [← H2.out] at hw2
        have HW2 := Lib.hid hw2.2.2
        have hx2 : 0 ≤ x2 ∧ x2 ≤ 8 := ⟨hw2.1, hw2.2.1⟩
        obtain ⟨K, rfl⟩ := Int.eq_ofNat_of_zero_le hx2.1
        have hK8 : K ≤ 8 := by omega
        obtain ⟨g, hg⟩ : ∃ g, g = w2.heap.size := ⟨_, rfl⟩
        have hwg : w.heap.size ≤ g := by rw [hg]; exact B2.out.size
        rw [← hg] at RD5 ⊢
        clear hw1 hw2 hx2 hg RD4 RD2 SL2 HWL
        go_loopw [12, 13] (fun v i wr => ∃ (k : Nat) (l : List Fld) (bad : Bool) (acc : List (List Row)), i = .int .i64 k ∧ k ≤ K ∧ acc.length ≤ k ∧ rdMany rrTab (K - k) l bad acc = (ts, l3', b3) ∧ wfL l ∧ RRd wr g g l bad ∧ OwnTb wr (g + 1) v acc ∧ Below w.heap.size w wr) (fun _ i _ => K - (intOf i).toNat)
        case atStart => exact ⟨0, l2', b2, [], rfl, Nat.zero_le _, Nat.le_refl _, by have := H3.out; rw [Int.toNat_natCast] at this; exact this.symm, HW2.out, RD5.out, ⟨fun _ => False, fun _ h => h.elim, Own.nil _ _ _ (fun _ h => h.elim) _ _⟩, B5.out⟩
        case round =>
          obtain ⟨wo, rfl⟩ : ∃ x : World, x = wr := ⟨_, rfl⟩
          obtain ⟨k, l, bad, acc, rfl, hkK, hlen, hrest, hwf, hrd, ⟨S, hS, hown⟩, hbel⟩ := hrel
          have RD := Lib.hid hrd
          have BE := Lib.hid hbel
          have HWF := Lib.hid hwf
          have OW := Lib.hid hown
          have HS := Lib.hid hS
          have hgr := hrd.lt
          have hsz := hbel.size
          have cb := hrd.badc
          clear hrd hbel hwf hown hS
          by_cases hex : K ≤ k ∨ bad = true
          · rw [rdMany_stop (by rcases hex with h | h; exact .inl (by omega); exact .inr h)] at hrest
            injection hrest with e1 e2
            injection e2 with e2 e3
            subst e1 e2 e3
            obtain ⟨A7, c7, rfl, l7, m7, sl7⟩ := OwnTb.sl ⟨S, HS.out, OW.out⟩
            obtain ⟨n7, hn7⟩ : ∃ n7, n7 = acc.length := ⟨_, rfl⟩
            rw [← hn7] at sl7 l7 OW ⊢
            have SL7 := Lib.hid sl7
            clear sl7 hn7 hlen
            have hd : decide ((k : Int) < (K : Int)) = false ∨ (decide ((k : Int) < (K : Int)) = true ∧ bad = true) := by
              rcases hex with h | h
              · exact .inl (decide_eq_false (by omega))
              · by_cases hk : k < K
                · exact .inr ⟨decide_eq_true (by omega), h⟩
                · exact .inl (decide_eq_false (by omega))
            clear hex
            have HKD := Lib.hid (show ∀ kk, IsSl (sliceRep rowRep) (wo.drewN kk) (· < (wo.drewN kk).heap.size) A7 n7 acc from fun kk => SL7.out.keep (fun _ _ => rfl))
            rcases hd with hd | ⟨hd, hbt⟩
            · have hdn1 := hd
              simp only [Int.ofNat_lt] at hdn1
              by_cases hdn : (!bad && l.isEmpty) = true
              · have HDN := Lib.hid hdn
                have hparts : bad = false ∧ l = [] := by
                  rw [Bool.and_eq_true] at hdn
                  exact ⟨by simpa using hdn.1, by simpa using hdn.2⟩
                have HRI2 := Lib.hid (show rrImg (decV (takeV b)) = ((x1, acc), [], false) by rw [HRI.out, hparts.1, hparts.2])
                clear hdn hparts
                cases hm : mayImg (x1, acc)
                · have HM := Lib.hid hm
                  have HN := Lib.hid (rfrom_no HRC.out HD.out HRI2.out (by rw [hm]; simp))
                  clear hm
                  go_wp2_with (first
                    | (go_at_call 72; (with_reducible refine (rend_any g g l bad wo RD.out).mono ?_); rintro ev w' ⟨rfl, kk, rfl⟩; rw [HDN.out])
                    | (go_at_call 54; (with_reducible refine (refMayImage_any x1 A7 n7 c7 acc (wo.drewN kk) (HKD.out kk)).mono ?_); rintro e w8 ⟨rfl, bel8⟩; rw [HM.out]; have B8 := Lib.hid (bel_n (below_drewN BE.out kk) bel8); clear bel8)
                    | fail)
                  refine bodyPost_ret (by simp [results, Try.results23, go_sem]; try rfl) rfl ?_
                  rw [HN.out.1, HN.out.2]
                  exact ⟨none, 0, 0, rfl, IsSl.nil, Nat.le_refl _, Nat.zero_le _, B8.out⟩
                · have HM := Lib.hid hm
                  have HY := Lib.hid (rfrom_yes HRC.out HD.out HRI2.out hm)
                  clear hm
                  go_wp2_with (first
                    | (go_at_call 72; (with_reducible refine (rend_any g g l bad wo RD.out).mono ?_); rintro ev w' ⟨rfl, kk, rfl⟩; rw [HDN.out])
                    | (go_at_call 54; (with_reducible refine (refMayImage_any x1 A7 n7 c7 acc (wo.drewN kk) (HKD.out kk)).mono ?_); rintro e w8 ⟨rfl, bel8⟩; rw [HM.out]; have B8 := Lib.hid (bel_n (below_drewN BE.out kk) bel8); have SL8 := Lib.hid ((HKD.out kk).af bel8); clear bel8)
                    | fail)
                  refine bodyPost_ret (by simp [results, Try.results23, go_sem]; try rfl) rfl ?_
                  rw [HY.out.1, HY.out.2]
                  exact ⟨A7, n7, c7, rfl, SL8.out, l7, m7, B8.out⟩
              · have hdn2 : (!bad && l.isEmpty) = false := by simpa using hdn
                have HDN := Lib.hid hdn2
                have HN := Lib.hid (rfrom_no HRC.out HD.out HRI.out (by
                  rintro ⟨e1, e2, _⟩
                  exact hdn (by rw [e1, e2]; rfl)))
                clear hdn hdn2
                go_wp2_with (first
                  | (go_at_call 72; (with_reducible refine (rend_any g g l bad wo RD.out).mono ?_); rintro ev w' ⟨rfl, kk, rfl⟩; rw [HDN.out])
                  | fail)
                refine bodyPost_ret (by simp [results, Try.results23, go_sem]; try rfl) rfl ?_
                rw [HN.out.1, HN.out.2]
                exact ⟨none, 0, 0, rfl, IsSl.nil, Nat.le_refl _, Nat.zero_le _, below_drewN BE.out kk⟩
            · subst hbt
              have hdn1 := hd
              simp only [Int.ofNat_lt] at hdn1
              have HDN := Lib.hid (show (!true && l.isEmpty) = false from rfl)
              have HN := Lib.hid (rfrom_no HRC.out HD.out HRI.out (by rintro ⟨e1, _⟩; cases e1))
              go_wp2_with (first
                | (go_at_call 72; (with_reducible refine (rend_any g g l true wo RD.out).mono ?_); rintro ev w' ⟨rfl, kk, rfl⟩; rw [HDN.out])
                | fail)
              refine bodyPost_ret (by simp [results, Try.results23, go_sem]; try rfl) rfl ?_
              rw [HN.out.1, HN.out.2]
              exact ⟨none, 0, 0, rfl, IsSl.nil, Nat.le_refl _, Nat.zero_le _, below_drewN BE.out kk⟩
          · obtain ⟨q, hq⟩ : ∃ q, K - k = q + 1 := ⟨K - k - 1, by omega⟩
            have hbad : bad = false := by cases bad; rfl; exact absurd (.inr rfl) hex
            subst hbad
            have hd : decide ((k : Int) < (K : Int)) = true := decide_eq_true (by omega)
            obtain ⟨⟨x3, la, ba⟩, ha⟩ : ∃ a, a = rintP l false 1000 := ⟨_, rfl⟩
            obtain ⟨⟨y, lq, bq⟩, hy⟩ : ∃ a, a = rdMany rrRow x3.toNat la ba [] := ⟨_, rfl⟩
            have hw3 := rintP_wf HWF.out false 1000 (by omega)
            rw [← ha] at hw3
            have hx3 : 0 ≤ x3 ∧ x3 ≤ 1000 := ⟨hw3.1, hw3.2.1⟩
            have HWA := Lib.hid hw3.2.2
            have hwq : wfL (rdMany rrRow x3.toNat la ba []).2.1 := rdMany_wfL (fun l bad h => (rrRow_wf l bad h).2) _ _ _ _ hw3.2.2
            rw [← hy] at hwq
            have HWQ := Lib.hid hwq
            have hyt : rrTab l false = (y, lq, bq) := by unfold rrTab; rw [← ha]; dsimp only; rw [← hy]
            have HNX := Lib.hid (show rdMany rrTab q lq bq (acc ++ [y]) = (ts, l3', b3) by rw [hq, rdMany_next, hyt] at hrest; exact hrest)
            have HKQ := Lib.hid (show K - (k + 1) = q by omega)
            have hkK2 : k < K := by omega
            have HA := Lib.hid ha
            have HYY := Lib.hid hy
            obtain ⟨M, rfl⟩ := Int.eq_ofNat_of_zero_le hx3.1
            have hM : M ≤ 1000 := by omega
            clear ha hy hw3 hx3 hwq hyt hrest hex hq
            go_wp2_with (first
              | (go_at_call 70; (with_reducible refine (rint_any g g l false 1000 wo RD.out (Nat.le_refl _)).mono ?_); rintro ev w6 ⟨rfl, rd6, gr6⟩; rw [← HA.out] at rd6 ⊢; have RD6 := Lib.hid rd6; have GR6 := Lib.hid gr6; have hs6 := gr6.size; clear rd6 gr6)
              | fail)
            clear cb
            go_loopw [15, 16] (fun v i wr => ∃ (j : Nat) (l2 : List Fld) (bad2 : Bool) (racc : List Row), i = .int .i64 j ∧ j ≤ M ∧ racc.length ≤ j ∧ rdMany rrRow (M - j) l2 bad2 racc = (y, lq, bq) ∧ wfL l2 ∧ RRd wr g g l2 bad2 ∧ Own rowRep wr w6.heap.size (fun _ => False) 80 v racc ∧ w6.grownBy wr (some g)) (fun _ i _ => M - (intOf i).toNat)
            case atStart => exact ⟨0, la, ba, [], rfl, Nat.zero_le _, Nat.le_refl _, by have := HYY.out; rw [Int.toNat_natCast] at this; exact this.symm, HWA.out, RD6.out, Own.nil _ _ _ (fun _ h => h.elim) _ _, World.grownBy.refl _ _⟩
            case round =>
              obtain ⟨j, l2, bad2, racc, rfl, hjM, hrl, hrest2, hwf2, hrd2, hown2, hgr2⟩ := hrel
              have RI := Lib.hid hrd2
              have OI := Lib.hid hown2
              have GI := Lib.hid hgr2
              have HWI := Lib.hid hwf2
              have hsi := hgr2.size
              have cb2 := hrd2.badc
              have hgi := hrd2.lt
              clear hrd2 hown2 hgr2 hwf2
              by_cases hexr : M ≤ j ∨ bad2 = true
              · rw [rdMany_stop (by rcases hexr with h | h; exact .inl (by omega); exact .inr h)] at hrest2
                injection hrest2 with e1 e2
                injection e2 with e2 e3
                subst e1 e2 e3
                have O7 := Lib.hid (OwnTb.next HS.out OW.out (Nat.lt_succ_self g) (grown_trans GR6.out GI.out))
                obtain ⟨A8, c8, rfl, l8, m8, sl8⟩ := OI.out.isSlR
                obtain ⟨n8, hn8⟩ : ∃ n8, n8 = racc.length := ⟨_, rfl⟩
                rw [← hn8] at sl8 l8 ⊢
                have SL8 := Lib.hid (sl8.weak (S' := fun q => S q ∨ (wo.heap.size ≤ q ∧ q < wr.heap.size)) (fun q hq => .inr ⟨Nat.le_trans hs6 hq.1, hq.2⟩))
                have BI := Lib.hid (BE.out.grown (grown_trans GR6.out GI.out) BE.out.size (fun k hk => by injection hk with hk; omega))
                have hd8 : decide ((j : Int) < (M : Int)) = false ∨ (decide ((j : Int) < (M : Int)) = true ∧ bad2 = true) := by
                  rcases hexr with h | h
                  · exact .inl (decide_eq_false (by omega))
                  · by_cases hk : j < M
                    · exact .inr ⟨decide_eq_true (by omega), h⟩
                    · exact .inl (decide_eq_false (by omega))
                clear hexr sl8 hn8 hrl
                rcases hd8 with hd8 | ⟨hd8, hbt⟩
                case' inr => subst hbt
                all_goals
                  have hdn8 := hd8
                  simp only [Int.ofNat_lt] at hdn8
                  go_wp2_with (first
                    | (at_builtin; refine wpList_append_Own _ rfl _ _ 22 rfl (g + 1) 81 i0 _ 24 Try.underlying22 hi hz0 hz1 hz2 rfl (R := sliceRep rowRep) (S := fun q => S q ∨ (wo.heap.size ≤ q ∧ q < wr.heap.size)) (l := acc) (l' := [racc]) u12 rfl (O7.out.alloc _) _ 1 1 rfl (Src.slice1 SL8.out l8 m8 O7.out.1) (by simp only [maxLen]; omega) (by omega) (by omega) (by simp; omega) ?_; intro v9 w9 own9 gr9 at9; have O9 := Lib.hid own9; have RD9 := Lib.hid ((RI.out.alloc (Nat.le_refl _) _).grown (Nat.le_refl _) gr9 (fun k hk => by have := OW.out.row_ge hk; omega)); have B9 := Lib.hid ((BI.out.alloc (by omega) _).grown gr9 (by simp; omega) (fun k hk => by have := OW.out.row_ge hk; omega)); clear own9 gr9 at9)
                    | fail)
                  go_roundw
                  case rel => exact ⟨k + 1, l2, _, acc ++ [racc], by go_num, by omega, by rw [List.length_append, List.length_cons, List.length_nil]; omega, by rw [HKQ.out]; exact HNX.out, HWI.out, RD9.out, ⟨_, fun q hq => Or.elim hq (HS.out q) (fun hq => by omega), O9.out⟩, B9.out⟩
                  case measure => simp [intOf]; omega
              · have hbad2 : bad2 = false := by cases bad2; rfl; exact absurd (.inr rfl) hexr
                subst hbad2
                obtain ⟨q2, hq2⟩ : ∃ q2, M - j = q2 + 1 := ⟨M - j - 1, by omega⟩
                have hjM2 : j < M := by omega
                have hd9 : decide ((j : Int) < (M : Int)) = true := decide_eq_true (by omega)
                obtain ⟨⟨ya, lb, bb⟩, hb1⟩ : ∃ a, a = rintP l2 false 1099511627776 := ⟨_, rfl⟩
                obtain ⟨⟨yv, lc, bc⟩, hb2⟩ : ∃ a, a = rtextP lb bb := ⟨_, rfl⟩
                have hrow : rrRow l2 false = (⟨ya, yv⟩, lc, bc) := by unfold rrRow; rw [← hb1]; dsimp only; rw [← hb2]
                have hwr := rrRow_wf l2 false HWI.out
                rw [hrow] at hwr
                have HWR := Lib.hid hwr
                have HB1 := Lib.hid hb1
                have HB2 := Lib.hid hb2
                have HQ2 := Lib.hid (show M - (j + 1) = q2 by omega)
                have HNY := Lib.hid (show rdMany rrRow q2 lc bc (racc ++ [⟨ya, yv⟩]) = (y, lq, bq) by rw [hq2, rdMany_next, hrow] at hrest2; exact hrest2)
                have HNG : Hid (∀ r, rowOf u15 = some r → r ≠ g ∧ r < wr.heap.size) := Lib.hid (fun r hr => ⟨by have := OI.out.row_ge hr; omega, OI.out.row_lt hr⟩)
                clear hb1 hb2 hrow hwr hrest2 hexr hq2
                go_wp2_with (first
                  | (go_at_call 70; (with_reducible refine (rint_any g g l2 false 1099511627776 wr RI.out (Nat.le_refl _)).mono ?_); rintro ev w7 ⟨rfl, rd7, gr7⟩; rw [← HB1.out] at rd7 ⊢; have RD7 := Lib.hid (rd7.alloc (Nat.le_refl _) (.cells #[.int .i64 ya, .string ⟨#[]⟩] 80)); have K7 := Lib.hid (Blk.new (w := w7) (cs := #[.int .i64 ya, .string ⟨#[]⟩]) (t := 80) rfl rfl); have O7 := Lib.hid ((OI.out.kept gr7 (fun k hk => ⟨fun e => (HNG.out k e).1 (by injection hk with hk; exact hk.symm), id⟩)).alloc (.cells #[.int .i64 ya, .string ⟨#[]⟩] 80)); have G7 := Lib.hid (grown_trans (grown_trans GI.out gr7) (World.grownBy_alloc w7 (.cells #[.int .i64 ya, .string ⟨#[]⟩] 80) (some g))); have hs7 := gr7.size; have hg7 := rd7.lt; clear rd7 gr7)
                  | (go_at_call 71; (with_reducible refine (rtext_any g g lb bb (w7.alloc (.cells #[.int .i64 ya, .string ⟨#[]⟩] 80)) RD7.out (Nat.le_refl _)).mono ?_); rintro ev w8 ⟨rfl, rd8, gr8⟩; rw [← HB2.out] at rd8 ⊢; have K8 := Lib.hid (K7.out.grown gr8 (fun k hk => by injection hk with hk; omega)); obtain ⟨s0, s1, sz⟩ := K8.out.c2; have hT8 := K8.out.lt; have RD8 := Lib.hid (rd8.stored (Nat.le_refl _) hg7 1 (.string yv)); have O8 := Lib.hid ((O7.out.kept gr8 (fun k hk => ⟨fun e => (HNG.out k e).1 (by injection hk with hk; exact hk.symm), id⟩)).kept (grownBy_set w8 ⟨w7.heap.size, 1, none⟩ (.string yv)) (fun k hk => ⟨fun e => (by have := (HNG.out k e).2; injection hk with hk; dsimp only at hk; omega), id⟩)); have G8 := Lib.hid (grown_far (grown_trans G7.out gr8) (grownBy_set w8 ⟨w7.heap.size, 1, none⟩ (.string yv)) (fun k hk => by injection hk with hk; dsimp only at hk; omega)); have HSR := Lib.hid (show Src rowRep ((w8.setCell ⟨w7.heap.size, 1, none⟩ (.string yv)).alloc (.cells #[.int .i64 ya, .string yv] 80)) (fun _ => False) (some ⟨w8.heap.size, 0, none⟩) 1 [(⟨ya, yv⟩ : Row)] from Src.newAt (R := rowRep) (w := (w8.setCell ⟨w7.heap.size, 1, none⟩ (.string yv))) (by simp) (cs := (⟨ya, yv⟩ : Row).cells) ⟨rfl, HWR.out.1⟩); clear rd8 gr8)
                  | (at_builtin; refine wpList_append_Own _ rfl _ _ 81 rfl w6.heap.size 80 j0 _ 24 Try.underlying81 ji jz0 jz1 jz2 rfl (R := rowRep) (S := fun _ => False) (l := racc) (l' := [(⟨ya, yv⟩ : Row)]) u15 rfl (O8.out.alloc _) _ 1 1 rfl HSR.out (by simp only [maxLen]; omega) (by omega) (by omega) (by simp; omega) ?_; intro v9 w9 own9 gr9 at9; have O9 := Lib.hid own9; have RD9 := Lib.hid ((RD8.out.alloc (Nat.le_refl _) _).grown (Nat.le_refl _) gr9 (fun k hk => by have := OI.out.row_ge hk; have := (HNG.out k hk).1; omega)); have G9 := Lib.hid (grown_far (grown_trans G8.out (World.grownBy_alloc _ _ (some g))) gr9 (fun k hk => OI.out.row_ge hk)); clear own9 gr9 at9)
                  | fail)
                go_roundw
                case rel => exact ⟨j + 1, lc, bc, racc ++ [⟨ya, yv⟩], by go_num, by omega, by rw [List.length_append, List.length_cons, List.length_nil]; omega, by rw [HQ2.out]; exact HNY.out, HWR.out.2, RD9.out, O9.out, G9.out⟩
                case measure => simp [intOf]; omega
      · have HN := Lib.hid (from_err HRC.out hD)
        have hD' : (decE (takeV b) != 0) = true := by simpa using hD
        clear hD
        go_enter Try.func23, Try.ntmps23
        go_wp2_with (first
          | (go_at_call 68; (with_reducible refine (reftake_any A n c b w HH.out h1 h2).mono ?_); rintro e w1 ⟨v1, rfl, own1, bel1⟩; rw [HE.out, HK.out]; obtain ⟨A1, c1, rfl, l1, m1, sl1⟩ := own1.isSlB; have SL1 := Lib.hid sl1; have B1 := Lib.hid bel1; clear own1 sl1 bel1)
          | (go_at_call 69; (with_reducible refine (refdecode_any A1 (takeV b).length c1 (takeV b) w1 SL1.out l1 m1).mono ?_); rintro e w2 ⟨v2, rfl, own2, bel2⟩; have B2 := Lib.hid (bel_n B1.out bel2); clear own2 bel2)
          | fail)
        refine bodyPost_ret (by simp [results, Try.results23, go_sem]; try rfl) rfl ?_
        rw [HN.out.1, HN.out.2]
        exact ⟨none, 0, 0, rfl, IsSl.nil, Nat.le_refl _, Nat.zero_le _, B2.out⟩
    · have HN := Lib.hid (from_bad (b := b) (fun h => hK h.2))
      have hK' : ((takeK b : Int) != (n : Int)) = true := by have := HL.out; simp; omega
      clear hE hK
      go_enter Try.func23, Try.ntmps23
      go_wp2_with (first
        | (go_at_call 68; (with_reducible refine (reftake_any A n c b w HH.out h1 h2).mono ?_); rintro e w1 ⟨v1, rfl, own1, bel1⟩; rw [HE.out]; obtain ⟨A1, c1, rfl, l1, m1, sl1⟩ := own1.isSlB; have SL1 := Lib.hid sl1; have B1 := Lib.hid bel1; clear own1 sl1 bel1)
        | fail)
      refine bodyPost_ret (by simp [results, Try.results23, go_sem]; try rfl) rfl ?_
      rw [HN.out.1, HN.out.2]
      exact ⟨none, 0, 0, rfl, IsSl.nil, Nat.le_refl _, Nat.zero_le _, B1.out⟩
  · have HN := Lib.hid (from_bad (b := b) (fun h => hE h.1))
    have hE' : (takeE b != 0) = true := by simpa using hE
    clear hE
    go_enter Try.func23, Try.ntmps23
    go_wp2_with (first
      | (go_at_call 68; (with_reducible refine (reftake_any A n c b w HH.out h1 h2).mono ?_); rintro e w1 ⟨v1, rfl, own1, bel1⟩; obtain ⟨A1, c1, rfl, l1, m1, sl1⟩ := own1.isSlB; have SL1 := Lib.hid sl1; have B1 := Lib.hid bel1; clear own1 sl1 bel1)
      | fail)
    refine bodyPost_ret (by simp [results, Try.results23, go_sem]; try rfl) rfl ?_
    rw [HN.out.1, HN.out.2]
    exact ⟨none, 0, 0, rfl, IsSl.nil, Nat.le_refl _, Nat.zero_le _, B1.out⟩
end Go.Proofs.Ythhpddiicnjmmaa
