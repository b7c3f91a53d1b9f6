/- Contract: image.Decode. Written by gen_img5.py. -/
import Derived.Test.YthhpddiicnjmmaaImg5
import Derived.Test.YthhpddiicnjmmaaRec7
import Derived.Test.YthhpddiicnjmmaaFld4
set_option linter.unusedVariables false
set_option linter.unusedSimpArgs false
set_option maxRecDepth 100000
namespace Go.Proofs.Ythhpddiicnjmmaa
open Go.RowKit

/-- What an owned slice's elements lead to may be said to be more. -/
theorem Own.weakS {α : Type} {R : Rep α} {w : World} {base : Nat} {S S' : Nat → Prop} {e : TypeId} {v : Value} {l : List α} (h : Own R w base S e v l) (hS : ∀ b, S b → S' b) (hlt : ∀ b, S' b → b < w.heap.size) (hrow : ∀ g, rowOf v = some g → ¬ S' g) : Own R w base S' e v l := by
  refine ⟨hlt, ?_⟩
  rcases h.2 with hn | ⟨g, cap, cur, xss, rfl, hbg, hSg, hh, hle, hm, hsz, hr, htake⟩
  · exact .inl hn
  · cases cap with
    | zero =>
      obtain rfl : l = [] := List.eq_nil_of_length_eq_zero (by omega)
      exact .inl ⟨_, rfl, rfl⟩
    | succ c => exact .inr ⟨g, c + 1, cur, xss, rfl, hbg, hrow g rfl, hh, hle, hm, hsz, hr.weak hS, htake⟩

theorem Own.row_out {α : Type} {R : Rep α} {w : World} {base : Nat} {S : Nat → Prop} {e : TypeId} {v : Value} {l : List α} (h : Own R w base S e v l) {g : Nat} (hg : rowOf v = some g) : ¬ S g := by
  rcases h.2 with ⟨A, rfl, rfl⟩ | ⟨g', cap, cur, xss, rfl, hb, hS, _⟩
  · cases A <;> simp [rowOf] at hg
  · cases cap with
    | zero => simp [rowOf] at hg
    | succ c => simp only [rowOf, Option.some.injEq] at hg; exact hg ▸ hS

/-- One slice, just laid into a block of its own. -/
theorem Src.slice1 {α : Type} {R : Rep α} {w : World} {S : Nat → Prop} {t : TypeId} {A : Option Addr} {n c : Nat} {l : List α} (h : IsSl R w S A n l) (h1 : n ≤ c) (h2 : c ≤ maxLen) (hS : ∀ b, S b → b < w.heap.size) :
    Src (sliceRep R) (w.alloc (.cells #[.slice A n c] t)) S (some ⟨w.heap.size, 0, none⟩) 1 [l] :=
  Src.new (cs := [.slice A n c]) ⟨A, n, c, rfl, h.keep (fun q hq => ((Below.refl w.heap.size w).alloc (Nat.le_refl _) _).cell (hS _ hq)), h1, h2⟩

theorem info_tab : (Try.prog.info? 81).map (fun i => (i.zero, i.size, i.bytes)) = some (some (.slice none 0 0), 1, 24) := by kernel_rfl
theorem from_bad {b : List UInt8} (h : ¬ isRec b) : fromV b = img0 ∧ fromE b = 3 := ⟨if_neg h, if_neg (fun h2 => h h2.1)⟩
theorem from_err {b : List UInt8} (h : isRec b) (he : ¬ decE (takeV b) = 0) : fromV b = img0 ∧ fromE b = 3 := by
  have h1 := decG_err (rd := rdImg) (may := mayImg) (z := img0) he
  refine ⟨(if_pos h).trans h1.1, if_neg (fun h2 => ?_)⟩
  rw [h1.2] at h2
  exact he h2.2
theorem from_no {b : List UInt8} (h : isRec b) (he : decE (takeV b) = 0) {t : Img} {l : List Fld} {bad : Bool} (hr : rdImg (decV (takeV b)) = (t, l, bad)) (hn : ¬ (bad = false ∧ l = [] ∧ mayImg t = true)) : fromV b = img0 ∧ fromE b = 3 := by
  have h1 := decG_no (may := mayImg) (z := img0) he hr hn
  refine ⟨(if_pos h).trans h1.1, if_neg (fun h2 => ?_)⟩
  rw [h1.2] at h2
  exact absurd h2.2 (by decide)
theorem from_yes {b : List UInt8} (h : isRec b) (he : decE (takeV b) = 0) {t : Img} (hr : rdImg (decV (takeV b)) = (t, [], false)) (hm : mayImg t = true) : fromV b = t ∧ fromE b = 0 := by
  have h1 := decG_ok (z := img0) he hr hm
  exact ⟨(if_pos h).trans h1.1, if_pos ⟨h, h1.2⟩⟩

/-- Tables made by a call. -/
def OwnTb (w : World) (base : Nat) (v : Value) (T : List (List Row)) : Prop := ∃ S : Nat → Prop, (∀ b, S b → base ≤ b) ∧ Own (sliceRep rowRep) w base S 81 v T
theorem OwnTb.next {w w' : World} {base g : Nat} {v : Value} {T : List (List Row)} {S : Nat → Prop} (hS : ∀ b, S b → base ≤ b) (h : Own (sliceRep rowRep) w base S 81 v T) (hg : g < base) (gr : w.grownBy w' (some g)) : Own (sliceRep rowRep) w' base (fun b => S b ∨ (w.heap.size ≤ b ∧ b < w'.heap.size)) 81 v T :=
  (h.kept gr (fun k hk => ⟨fun e => (by have := h.row_ge e; injection hk with hk; omega), fun hs => (by have := hS _ hs; injection hk with hk; omega)⟩)).weakS (fun _ h => .inl h) (fun b hb => Or.elim hb (fun h2 => by have := h.1 b h2; have := gr.size; omega) (fun h2 => h2.2)) (fun q hq hb => Or.elim hb (fun h2 => h.row_out hq h2) (fun h2 => by have := h.row_lt hq; omega))
theorem OwnTb.sl {w : World} {base : Nat} {v : Value} {T : List (List Row)} (h : OwnTb w base v T) : ∃ A c, v = .slice A T.length c ∧ T.length ≤ c ∧ c ≤ maxLen ∧ IsSl (sliceRep rowRep) w (· < w.heap.size) A T.length T := by
  obtain ⟨S, hS, ho⟩ := h
  exact ho.isSl (fun b hb => ho.1 b hb) (fun g _ h => h)

set_option maxHeartbeats 16000000 in
theorem imgDecode_any (A : Option Addr) (n c : Nat) (b : List UInt8) (w : World) (h : IsSl byteRep w (· < w.heap.size) A n b) (h1 : n ≤ c) (h2 : c ≤ maxLen) :
    Calls Try.prog 18 #[.slice A n c] w fun e w' => ∃ A2 n2 c2, e = .returned (.tuple #[.int .i64 (fromV b).1, .slice A2 n2 c2, .int .i64 (fromE b)]) ∧ IsSl (sliceRep rowRep) w' (· < w'.heap.size) A2 n2 (fromV b).2 ∧ n2 ≤ c2 ∧ c2 ≤ maxLen ∧ Below w.heap.size w w' := by
  obtain ⟨i0, hi, hz0, hz1, hz2⟩ := info_parts info_tab
  have HH := Lib.hid h
  have HL := Lib.hid h.len
  clear h
  by_cases hE : takeE b = 0
  · have HE := Lib.hid hE
    by_cases hK : takeK b = b.length
    · have HK := Lib.hid (show takeK b = n by rw [hK, ← HL.out])
      have HRC := Lib.hid (show isRec b from ⟨hE, hK⟩)
      clear hE hK
      by_cases hD : decE (takeV b) = 0
      · have HD := Lib.hid hD
        clear hD
        obtain ⟨L, hLe⟩ : ∃ L, L = decV (takeV b) := ⟨_, rfl⟩
        have HLE := Lib.hid hLe
        obtain ⟨⟨x1, l1', b1⟩, e1⟩ : ∃ a, a = intP L false := ⟨_, rfl⟩
        obtain ⟨⟨x2, l2', b2⟩, e2⟩ : ∃ a, a = smallP l1' b1 8 := ⟨_, rfl⟩
        obtain ⟨⟨ts, l3', b3⟩, e3⟩ : ∃ a, a = rdAll rdTab x2.toNat l2' b2 [] := ⟨_, rfl⟩
        have HRI := Lib.hid (show rdImg (decV (takeV b)) = ((x1, ts), l3', b3) by rw [← hLe]; unfold rdImg; rw [← e1]; dsimp only; rw [← e2]; dsimp only; rw [← e3])
        have H1 := Lib.hid e1
        have H2 := Lib.hid e2
        have H3 := Lib.hid e3
        clear hLe e1 e2 e3
        go_enter Try.func18, Try.ntmps18
        go_wp2_with (first
          | (go_at_call 60; (with_reducible refine (take_any A n c b w HH.out h1 h2).mono ?_); rintro e w1 ⟨v1, rfl, own1, bel1⟩; rw [HE.out, HK.out]; obtain ⟨A1, c1, rfl, l1, m1, sl1⟩ := own1.isSlB; have SL1 := Lib.hid sl1; have B1 := Lib.hid bel1; clear own1 sl1 bel1)
          | (go_at_call 61; (with_reducible refine (decode_any A1 (takeV b).length c1 (takeV b) w1 SL1.out l1 m1).mono ?_); rintro e w2 ⟨v2, rfl, own2, bel2⟩; rw [HD.out]; rw [← HLE.out] at own2; have B2 := Lib.hid (bel_n B1.out bel2); obtain ⟨A2, c2, rfl, l2, m2, sl2⟩ := own2.isSlB; have SL2 := Lib.hid sl2; have HWL := Lib.hid sl2.wfL; clear sl2; clear own2 bel2)
          | (go_at_call 62; (with_reducible refine (pread_any A2 L.length c2 L w2 SL2.out l2 m2).mono ?_); rintro ev w3 ⟨rfl, rd3, bel3⟩; have RD3 := Lib.hid rd3; have hg3 := rd3.lt; have B3 := Lib.hid (bel_n B2.out bel3); clear rd3 bel3)
          | (go_at_call 63; (with_reducible refine (pint_any _ w2.heap.size L false w3 RD3.out (Nat.le_refl _)).mono ?_); rintro ev w4 ⟨rfl, rd4, gr4⟩; rw [← H1.out] at rd4 ⊢; have RD4 := Lib.hid rd4; have B4 := Lib.hid (B3.out.grown gr4 B3.out.size (fun k hk => by injection hk with hk; have := B2.out.size; omega)); have hs4 := gr4.size; clear rd4 gr4)
          | (go_at_call 64; (with_reducible refine (psmall_any _ w2.heap.size l1' b1 8 w4 RD4.out (Nat.le_refl _)).mono ?_); rintro ev w5 ⟨rfl, rd5, gr5⟩; rw [← H2.out] at rd5 ⊢; have RD5 := Lib.hid rd5; have B5 := Lib.hid (B4.out.grown gr5 B4.out.size (fun k hk => by injection hk with hk; have := B2.out.size; omega)); have hs5 := gr5.size; clear rd5 gr5)
          | fail)
        have hw1 := intP_wf HWL.out false
        rw [← H1.out] at hw1
        have hw2 := smallP_wf hw1.2 b1 8 (by omega)
        rw [← H2.out] at hw2
        have HW2 := Lib.hid hw2.2.2
        have hx2 : 0 ≤ x2 ∧ x2 ≤ 8 := ⟨hw2.1, hw2.2.1⟩
        obtain ⟨k2, rfl⟩ := Int.eq_ofNat_of_zero_le hx2.1
        have hk2 : k2 ≤ 8 := by omega
        obtain ⟨g, hg⟩ : ∃ g, g = w2.heap.size := ⟨_, rfl⟩
        have hwg : w.heap.size ≤ g := by rw [hg]; exact B2.out.size
        rw [← hg] at RD5 ⊢
        clear hw1 hw2 hx2 hg RD3 RD4 hg3 SL2 HWL
        go_loopw [11, 12] (fun v i wr => ∃ (k : Nat) (l : List Fld) (bad : Bool) (acc : List (List Row)), i = .int .i64 k ∧ acc.length + k ≤ 8 ∧ rdAll rdTab k l bad acc = (ts, l3', b3) ∧ wfL l ∧ PRd wr g g l bad ∧ OwnTb wr (g + 1) v acc ∧ Below w.heap.size w wr) (fun _ i _ => (intOf i).toNat)
        case atStart => exact ⟨k2, l2', b2, [], rfl, by simpa using hk2, by have := H3.out; rw [Int.toNat_natCast] at this; exact this.symm, HW2.out, RD5.out, ⟨fun _ => False, fun _ h => h.elim, Own.nil _ _ _ (fun _ h => h.elim) _ _⟩, B5.out⟩
        case round =>
          obtain ⟨k, l, bad, acc, rfl, hlen, hrest, hwf, hrd, ⟨S, hS, hown⟩, hbel⟩ := hrel
          have RD := Lib.hid hrd
          have BE := Lib.hid hbel
          have HWF := Lib.hid hwf
          have OW := Lib.hid hown
          have HS := Lib.hid hS
          have hgr := hrd.lt
          have hsz := hbel.size
          clear hrd hbel hwf hown hS
          cases k with
          | zero =>
            rw [rdAll] at hrest
            injection hrest with e1 e2
            injection e2 with e2 e3
            subst e1 e2 e3
            obtain ⟨A7, c7, rfl, l7, m7, sl7⟩ := OwnTb.sl ⟨S, HS.out, OW.out⟩
            obtain ⟨n7, hn7⟩ : ∃ n7, n7 = acc.length := ⟨_, rfl⟩
            rw [← hn7] at sl7 l7 OW ⊢
            have SL7 := Lib.hid sl7
            clear sl7 hn7 hlen
            by_cases hdn : (!bad && l.isEmpty) = true
            · have HDN := Lib.hid hdn
              have hparts : bad = false ∧ l = [] := by
                rw [Bool.and_eq_true] at hdn
                exact ⟨by simpa using hdn.1, by simpa using hdn.2⟩
              have HRI2 := Lib.hid (show rdImg (decV (takeV b)) = ((x1, acc), [], false) by rw [HRI.out, hparts.1, hparts.2])
              clear hdn hparts
              cases hm : mayImg (x1, acc)
              · have HM := Lib.hid hm
                have HN := Lib.hid (from_no HRC.out HD.out HRI2.out (by rw [hm]; simp))
                clear hm
                go_wp2_with (first
                  | (go_at_call 66; (with_reducible refine (pdone_any g g l bad wr RD.out (Nat.le_refl _)).mono ?_); rintro ev w' ⟨rfl, rfl⟩; rw [HDN.out])
                  | (go_at_call 49; (with_reducible refine (imgMay_any x1 A7 n7 c7 acc _ SL7.out).mono ?_); rintro e w8 ⟨rfl, bel8⟩; rw [HM.out]; have B8 := Lib.hid (bel_n BE.out bel8); clear bel8)
                  | fail)
                refine bodyPost_ret (by simp [results, Try.results18, go_sem]; try rfl) rfl ?_
                rw [HN.out.1, HN.out.2]
                exact ⟨none, 0, 0, rfl, IsSl.nil, Nat.le_refl _, Nat.zero_le _, B8.out⟩
              · have HM := Lib.hid hm
                have HY := Lib.hid (from_yes HRC.out HD.out HRI2.out hm)
                clear hm
                go_wp2_with (first
                  | (go_at_call 66; (with_reducible refine (pdone_any g g l bad wr RD.out (Nat.le_refl _)).mono ?_); rintro ev w' ⟨rfl, rfl⟩; rw [HDN.out])
                  | (go_at_call 49; (with_reducible refine (imgMay_any x1 A7 n7 c7 acc _ SL7.out).mono ?_); rintro e w8 ⟨rfl, bel8⟩; rw [HM.out]; have B8 := Lib.hid (bel_n BE.out bel8); have SL8 := Lib.hid (SL7.out.af bel8); clear bel8)
                  | fail)
                refine bodyPost_ret (by simp [results, Try.results18, go_sem]; try rfl) rfl ?_
                rw [HY.out.1, HY.out.2]
                exact ⟨A7, n7, c7, rfl, SL8.out, l7, m7, B8.out⟩
            · have hdn2 : (!bad && l.isEmpty) = false := by simpa using hdn
              have HDN := Lib.hid hdn2
              have HN := Lib.hid (from_no HRC.out HD.out HRI.out (by
                rintro ⟨e1, e2, _⟩
                exact hdn (by rw [e1, e2]; rfl)))
              clear hdn hdn2
              go_wp2_with (first
                | (go_at_call 66; (with_reducible refine (pdone_any g g l bad wr RD.out (Nat.le_refl _)).mono ?_); rintro ev w' ⟨rfl, rfl⟩; rw [HDN.out])
                | fail)
              refine bodyPost_ret (by simp [results, Try.results18, go_sem]; try rfl) rfl ?_
              rw [HN.out.1, HN.out.2]
              exact ⟨none, 0, 0, rfl, IsSl.nil, Nat.le_refl _, Nat.zero_le _, BE.out⟩
          | succ q =>
            obtain ⟨⟨y, lq, bq⟩, hy⟩ : ∃ a, a = rdTab l bad := ⟨_, rfl⟩
            have hwq : wfL (rdTab l bad).2.1 := rdMany_wfL (fun l bad h => (rdRow_wf l bad h).2) _ _ _ _ (smallP_wf HWF.out bad 1000 (by omega)).2.2
            rw [← hy] at hwq
            have HWQ := Lib.hid hwq
            have HY := Lib.hid hy
            have HNX := Lib.hid (show rdAll rdTab q lq bq (acc ++ [y]) = (ts, l3', b3) by rw [rdAll, ← hy] at hrest; exact hrest)
            have hd : decide ((0 : Int) < ((q + 1 : Nat) : Int)) = true := decide_eq_true (by omega)
            have hdn : decide (0 < q + 1) = true := decide_eq_true (by omega)
            clear hy hwq hrest
            go_wp2_with (first
              | (go_at_call 65; (with_reducible refine (imgRows_any g g l bad wr RD.out (Nat.le_refl _) HWF.out).mono ?_); rintro ev w7 ⟨v7, rfl, own7, rd7, gr7⟩; rw [← HY.out] at own7 rd7; obtain ⟨A7, c7, rfl, l7, m7, sl7⟩ := own7.isSlR; obtain ⟨n7, hn7⟩ : ∃ n7, n7 = y.length := ⟨_, rfl⟩; rw [← hn7] at sl7 l7 ⊢; have SL7 := Lib.hid sl7; have RD7 := Lib.hid rd7; have O7 := Lib.hid (OwnTb.next HS.out OW.out (Nat.lt_succ_self g) gr7); have B7 := Lib.hid (BE.out.grown gr7 BE.out.size (fun k hk => by injection hk with hk; omega)); have hs7 := gr7.size; clear own7 rd7 gr7 sl7 hn7)
              | (at_builtin; refine wpList_append_Own _ rfl _ _ 22 rfl (g + 1) 81 i0 _ 24 Try.underlying22 hi hz0 hz1 hz2 rfl (R := sliceRep rowRep) (S := fun b => S b ∨ (wr.heap.size ≤ b ∧ b < w7.heap.size)) (l := acc) (l' := [y]) u11 rfl (O7.out.alloc _) _ 1 1 rfl (Src.slice1 (SL7.out.weak (fun b hb => .inr hb)) l7 m7 O7.out.1) (by simp only [maxLen]; omega) (by omega) (by omega) (by simp; omega) ?_; intro v8 w8 own8 gr8 at8; have O8 := Lib.hid own8; have RD8 := Lib.hid ((RD7.out.alloc (Nat.le_refl _) _).grown (Nat.le_refl _) gr8 (fun k hk => by have := OW.out.row_ge hk; omega)); have B8 := Lib.hid ((B7.out.alloc (by omega) _).grown gr8 (by simp; omega) (fun k hk => by have := OW.out.row_ge hk; omega)); clear own8 gr8 at8)
              | fail)
            go_roundw
            case rel => exact ⟨q, lq, bq, acc ++ [y], by go_num, by rw [List.length_append, List.length_cons, List.length_nil]; omega, HNX.out, HWQ.out, RD8.out, ⟨_, fun b hb => Or.elim hb (HS.out b) (fun hb => by omega), O8.out⟩, B8.out⟩
            case measure => simp [intOf]
      · have HN := Lib.hid (from_err HRC.out hD)
        have hD' : (decE (takeV b) != 0) = true := by simpa using hD
        clear hD
        go_enter Try.func18, Try.ntmps18
        go_wp2_with (first
          | (go_at_call 60; (with_reducible refine (take_any A n c b w HH.out h1 h2).mono ?_); rintro e w1 ⟨v1, rfl, own1, bel1⟩; rw [HE.out, HK.out]; obtain ⟨A1, c1, rfl, l1, m1, sl1⟩ := own1.isSlB; have SL1 := Lib.hid sl1; have B1 := Lib.hid bel1; clear own1 sl1 bel1)
          | (go_at_call 61; (with_reducible refine (decode_any A1 (takeV b).length c1 (takeV b) w1 SL1.out l1 m1).mono ?_); rintro e w2 ⟨v2, rfl, own2, bel2⟩; have B2 := Lib.hid (bel_n B1.out bel2); clear own2 bel2)
          | fail)
        refine bodyPost_ret (by simp [results, Try.results18, go_sem]; try rfl) rfl ?_
        rw [HN.out.1, HN.out.2]
        exact ⟨none, 0, 0, rfl, IsSl.nil, Nat.le_refl _, Nat.zero_le _, B2.out⟩
    · have HN := Lib.hid (from_bad (b := b) (fun h => hK h.2))
      have hK' : ((takeK b : Int) != (n : Int)) = true := by have := HL.out; simp; omega
      clear hE hK
      go_enter Try.func18, Try.ntmps18
      go_wp2_with (first
        | (go_at_call 60; (with_reducible refine (take_any A n c b w HH.out h1 h2).mono ?_); rintro e w1 ⟨v1, rfl, own1, bel1⟩; rw [HE.out]; obtain ⟨A1, c1, rfl, l1, m1, sl1⟩ := own1.isSlB; have SL1 := Lib.hid sl1; have B1 := Lib.hid bel1; clear own1 sl1 bel1)
        | fail)
      refine bodyPost_ret (by simp [results, Try.results18, go_sem]; try rfl) rfl ?_
      rw [HN.out.1, HN.out.2]
      exact ⟨none, 0, 0, rfl, IsSl.nil, Nat.le_refl _, Nat.zero_le _, B1.out⟩
  · have HN := Lib.hid (from_bad (b := b) (fun h => hE h.1))
    have hE' : (takeE b != 0) = true := by simpa using hE
    clear hE
    go_enter Try.func18, Try.ntmps18
    go_wp2_with (first
      | (go_at_call 60; (with_reducible refine (take_any A n c b w HH.out h1 h2).mono ?_); rintro e w1 ⟨v1, rfl, own1, bel1⟩; obtain ⟨A1, c1, rfl, l1, m1, sl1⟩ := own1.isSlB; have SL1 := Lib.hid sl1; have B1 := Lib.hid bel1; clear own1 sl1 bel1)
      | fail)
    refine bodyPost_ret (by simp [results, Try.results18, go_sem]; try rfl) rfl ?_
    rw [HN.out.1, HN.out.2]
    exact ⟨none, 0, 0, rfl, IsSl.nil, Nat.le_refl _, Nat.zero_le _, B1.out⟩
end Go.Proofs.Ythhpddiicnjmmaa
