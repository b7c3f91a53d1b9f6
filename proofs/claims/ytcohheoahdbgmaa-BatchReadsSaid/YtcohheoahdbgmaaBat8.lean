/- Contract: the reference's DecodeItem. Written by gen_bat8.py. -/
import Derived.Test.YtcohheoahdbgmaaBat7
import Derived.Deep.RegionHeld3
set_option linter.unusedVariables false
set_option linter.unusedSimpArgs false
namespace Go.Proofs.Ytcohheoahdbgmaa
open Go.RowKit

/-- The reference's decoding of notes, midway: the reader at g, the item at T, the note at D. -/
structure NS (w2 wr : World) (g T Y D : Nat) (l : List Fld) (bad : Bool) (v2 v3 : Value) (cs : List Opr) (acc : List Note) (x1 : Int) (dcs : List Value) : Prop where
  rd : RRd wr g g l bad
  ow : Own oprRep wr (T + 1) (fun _ => False) 29 v2 cs
  ov : Own noteRep wr Y (fun _ => False) 27 v3 acc
  at_ : Blk wr T [.int .i64 x1, v2, v3]
  be : Below g w2 wr
  d : Blk wr D dcs
  hgT : g < T
  hTD : T < D
  hTY : T < Y
  hYD : Y ≤ D
  hr2 : ∀ q, rowOf v2 = some q → q < D
  hr3 : ∀ q, rowOf v3 = some q → q < D
section
variable {w2 wr wr' : World} {g T Y D : Nat} {l l' : List Fld} {bad bad' : Bool} {v2 v3 : Value} {cs : List Opr} {acc : List Note} {x1 : Int} {dcs : List Value}
theorem NS.call (h : NS w2 wr g T Y D l bad v2 v3 cs acc x1 dcs) (rd : RRd wr' g g l' bad') (gr : wr.grownBy wr' (some g)) : NS w2 wr' g T Y D l' bad' v2 v3 cs acc x1 dcs := by
  have h1 := h.hgT
  have h2 := h.hTD
  have h3 := h.hTY
  have h4 := h.at_.lt
  refine ⟨rd, h.ow.kept gr (fun k hk => ⟨fun e => ?_, id⟩), h.ov.kept gr (fun k hk => ⟨fun e => ?_, id⟩), h.at_.grown gr (fun k hk => by injection hk with hk; omega), h.be.grown gr (by omega) (fun k hk => by injection hk with hk; omega), h.d.grown gr (fun k hk => by injection hk with hk; omega), h1, h2, h3, h.hYD, h.hr2, h.hr3⟩
  · have := h.ow.row_ge e; injection hk with hk; omega
  · have := h.ov.row_ge e; injection hk with hk; omega
theorem NS.put (h : NS w2 wr g T Y D l bad v2 v3 cs acc x1 dcs) {j : Nat} (hj : j < dcs.length) (u : Value) {dcs' : List Value} (hd : dcs' = dcs.set j u) : NS w2 (wr.setCell ⟨D, j, none⟩ u) g T Y D l bad v2 v3 cs acc x1 dcs' := by
  have h1 := h.hgT
  have h2 := h.hTD
  have h3 := h.hTY
  have gr := grownBy_set wr ⟨D, j, none⟩ u
  refine ⟨h.rd.stored (Nat.le_refl _) (Nat.lt_trans h1 h2) j u, h.ow.kept gr (fun k hk => ⟨fun e => ?_, id⟩), h.ov.kept gr (fun k hk => ⟨fun e => ?_, id⟩), h.at_.other (by omega) j u, h.be.setCell (by show g ≤ D; omega) _, h.d.put hj u hd, h1, h2, h3, h.hYD, h.hr2, h.hr3⟩
  · have := h.hr2 _ e; injection hk with hk; dsimp only at hk; omega
  · have := h.hr3 _ e; injection hk with hk; dsimp only at hk; omega
theorem NS.first (rd : RRd wr' g g l' bad') (gr : wr.grownBy wr' (some g)) (ow : Own oprRep wr (T + 1) (fun _ => False) 29 v2 cs) (ov : Own noteRep wr Y (fun _ => False) 27 v3 acc) (at_ : Blk wr T [.int .i64 x1, v2, v3]) (be : Below g w2 wr) (hgT : g < T) (hTY : T < Y) (hY : Y ≤ wr.heap.size) {a : Array Value} (ha : a.toList = dcs) (t : TypeId) : NS w2 (wr'.alloc (.cells a t)) g T Y wr'.heap.size l' bad' v2 v3 cs acc x1 dcs := by
  have h4 := at_.lt
  have hs := gr.size
  have ow' : Own oprRep wr' (T + 1) (fun _ => False) 29 v2 cs := ow.kept gr (fun k hk => ⟨fun e => by have := ow.row_ge e; injection hk with hk; omega, id⟩)
  have ov' : Own noteRep wr' Y (fun _ => False) 27 v3 acc := ov.kept gr (fun k hk => ⟨fun e => by have := ov.row_ge e; injection hk with hk; omega, id⟩)
  exact ⟨rd.alloc (Nat.le_refl _) _, ow'.alloc _, ov'.alloc _, (at_.grown gr (fun k hk => by injection hk with hk; omega)).alloc _, (be.grown gr (by omega) (fun k hk => by injection hk with hk; omega)).alloc (by omega) _, Blk.new ha rfl, hgT, by omega, hTY, by omega, fun q hq => ow'.row_lt hq, fun q hq => ov'.row_lt hq⟩
end

set_option maxRecDepth 100000 in
set_option maxHeartbeats 32000000 in
theorem refDecodeItem_err (A : Option Addr) (n c : Nat) (b : List UInt8) (w : World) (h : IsSl byteRep w (· < w.heap.size) A n b) (h1 : n ≤ c) (h2 : c ≤ maxLen) (he : ¬ decE b = 0) :
    Calls Try.prog 27 #[.slice A n c] w fun e w' => ItemRes (rdecIV b) (rdecIE b) w e w' := by
  obtain ⟨i0, hi, hz0, hz1, hz2⟩ := info_parts info_opr
  obtain ⟨j0, ji, jz0, jz1, jz2⟩ := info_parts info_note
  have H := Lib.hid h
  have bw0 : ∀ o, Below w.heap.size w (w.alloc o) := fun o => (Below.refl _ _).alloc (Nat.le_refl _) o
  clear h
  have HX := Lib.hid (show rdecIV b = item0 ∧ rdecIE b = decE b from decG_err (z := item0) (may := mayItem) he)
  obtain ⟨e0, he0⟩ : ∃ e0, e0 = decE b := ⟨_, rfl⟩
  have hb1 : (e0 == 0) = false := by rw [he0]; simpa using he
  have hb2 : (e0 != 0) = true := by rw [he0]; simpa using he
  have HE0 := Lib.hid he0
  clear he he0
  go_enter Try.func27, Try.ntmps27
  go_wp2_with (first
    | (go_at_call 63; (with_reducible refine (refdecode_any A n c b _ ((H.out.below (bw0 _)).more (by simp)) h1 h2).mono ?_); rintro ev w2 ⟨v2, rfl, own2, bel2⟩; rw [← HE0.out]; have R0 := Lib.hid ((Blk.new (w := w) (cs := #[.int .i64 0, .slice none 0 0, .slice none 0 0]) (t := 25) rfl rfl).after bel2); obtain ⟨r0, r1, r2, q2⟩ := R0.out.c3; have hRs := R0.out.lt; have BEX := Lib.hid ((bw0 _).trans (bel2.mono (by simp))); clear own2 bel2)
    | fail)
  refine bodyPost_ret (by simp [results, Try.results27, go_sem, r0, r1, r2]; try rfl) rfl ?_
  rw [HX.out.1, HX.out.2, ← HE0.out]
  exact ⟨none, 0, 0, none, 0, 0, rfl, IsSl.nil, Nat.le_refl _, Nat.zero_le _, IsSl.nil, Nat.le_refl _, Nat.zero_le _, set3_below BEX.out (Nat.le_refl _) _ _ _⟩


set_option maxRecDepth 100000 in
set_option maxHeartbeats 32000000 in
theorem refDecodeItem_ok (A : Option Addr) (n c : Nat) (b : List UInt8) (w : World) (h : IsSl byteRep w (· < w.heap.size) A n b) (h1 : n ≤ c) (h2 : c ≤ maxLen) (he : decE b = 0) :
    Calls Try.prog 27 #[.slice A n c] w fun e w' => ItemRes (rdecIV b) (rdecIE b) w e w' := by
  obtain ⟨i0, hi, hz0, hz1, hz2⟩ := info_parts info_opr
  obtain ⟨j0, ji, jz0, jz1, jz2⟩ := info_parts info_note
  have H := Lib.hid h
  have bw0 : ∀ o, Below w.heap.size w (w.alloc o) := fun o => (Below.refl _ _).alloc (Nat.le_refl _) o
  clear h
  obtain ⟨L, hL⟩ : ∃ L, L = decV b := ⟨_, rfl⟩
  obtain ⟨⟨x1, l1, b1⟩, hr1⟩ : ∃ a, a = rintP L false 1099511627776 := ⟨_, rfl⟩
  obtain ⟨⟨x4, l4, b4⟩, hr4⟩ : ∃ a, a = rintP l1 b1 4096 := ⟨_, rfl⟩
  obtain ⟨⟨cs, l5, b5⟩, hr5⟩ : ∃ a, a = rdMany rrOpr x4.toNat l4 b4 [] := ⟨_, rfl⟩
  obtain ⟨⟨x6, l6, b6⟩, hr6⟩ : ∃ a, a = rintP l5 b5 256 := ⟨_, rfl⟩
  obtain ⟨⟨ts, l7, b7⟩, hr7⟩ : ∃ a, a = rdMany rrNote x6.toNat l6 b6 [] := ⟨_, rfl⟩
  have hrd : rrItem L = (⟨x1, cs, ts⟩, l7, b7) := by
    unfold rrItem
    rw [← hr1]; dsimp only; rw [← hr4]; dsimp only; rw [← hr5]; dsimp only; rw [← hr6]; dsimp only; rw [← hr7]
  have HE := Lib.hid he
  have HRD := Lib.hid hrd
  have HR1 := Lib.hid hr1
  have HR4 := Lib.hid hr4
  have HR5 := Lib.hid hr5
  have HR6 := Lib.hid hr6
  have HR7 := Lib.hid hr7
  have HLL := Lib.hid hL
  clear he hrd hr1 hr4 hr5 hr6 hr7 hL
  go_enter Try.func27, Try.ntmps27
  go_upto_block 0 with (first
    | (go_at_call 63; (with_reducible refine (refdecode_any A n c b _ ((H.out.below (bw0 _)).more (by simp)) h1 h2).mono ?_); rintro ev w2 ⟨v2, rfl, own2, bel2⟩; rw [HE.out]; rw [← HLL.out] at own2; obtain ⟨A2, c2, rfl, hlc2, hcm2, sl2⟩ := own2.isSlB; have HWL := Lib.hid sl2.wfL; have RD2 := Lib.hid (RRd.new sl2 hlc2 hcm2 97); have R2 := Lib.hid ((Blk.new (w := w) (cs := #[.int .i64 0, .slice none 0 0, .slice none 0 0]) (t := 25) rfl rfl).after bel2); have hs2 : w.heap.size + 1 ≤ w2.heap.size := (by have h := bel2.size; simpa using h); have BEL2 := Lib.hid ((bw0 _).trans (bel2.mono (by simp))); clear own2 sl2 bel2)
    | (go_at_call 64; (with_reducible refine (rint_any _ w2.heap.size L false 1099511627776 _ RD2.out (Nat.le_refl _)).mono ?_); rintro ev w4 ⟨rfl, rd4, gr4⟩; rw [← HR1.out] at rd4 ⊢; have hs3 : w2.heap.size + 1 ≤ w4.heap.size := (by have h := gr4.size; simpa using h); have RD4 := Lib.hid (rd4.alloc (Nat.le_refl _) (.cells #[.int .i64 x1, .slice none 0 0, .slice none 0 0] 25)); have T4 := Lib.hid (Blk.new (w := w4) (cs := #[.int .i64 x1, .slice none 0 0, .slice none 0 0]) (t := 25) rfl rfl); have BE4 := Lib.hid ((((Below.refl w2.heap.size w2).alloc (Nat.le_refl _) _).grown gr4 (by simp) (fun k hk => by injection hk with hk; omega)).alloc (by omega) (.cells #[.int .i64 x1, .slice none 0 0, .slice none 0 0] 25)); have hgT : w2.heap.size < w4.heap.size := (by omega); clear rd4 gr4)
    | (go_at_call 64; (with_reducible refine (rint_any _ w2.heap.size l1 b1 4096 _ RD4.out (Nat.le_refl _)).mono ?_); rintro ev w6 ⟨rfl, rd6, gr6⟩; rw [← HR4.out] at rd6 ⊢; have RD6 := Lib.hid rd6; have T6 := Lib.hid (T4.out.grown gr6 (fun k hk => by injection hk with hk; omega)); have BE6 := Lib.hid (BE4.out.grown gr6 (by simp; omega) (fun k hk => by injection hk with hk; omega)); clear rd6 gr6)
    | fail)
  obtain ⟨g, hg⟩ : ∃ g, g = w2.heap.size := ⟨_, rfl⟩
  obtain ⟨T, hT⟩ : ∃ T, T = w4.heap.size := ⟨_, rfl⟩
  rw [← hT] at T6 hgT ⊢
  rw [← hg] at RD6 BE6 hgT hs2 ⊢
  clear RD2 RD4 T4 BE4 hs3 hg hT
  have hq1 := rintP_wf HWL.out false 1099511627776 (by omega)
  rw [← HR1.out] at hq1
  have hq4 := rintP_wf hq1.2.2 b1 4096 (by omega)
  rw [← HR4.out] at hq4
  have HW4 := Lib.hid hq4.2.2
  have hx4 : 0 ≤ x4 ∧ x4 ≤ 4096 := ⟨hq4.1, hq4.2.1⟩
  clear hq1 hq4
  obtain ⟨k4, rfl⟩ := Int.eq_ofNat_of_zero_le hx4.1
  have hk4 : k4 ≤ 4096 := by omega
  clear hx4
  go_cut [9] (fun i wx => ∃ v2 : Value, wfL l5 ∧ cs.length ≤ 4096 ∧ RRd wx g g l5 b5 ∧ Own oprRep wx (T + 1) (fun _ => False) 29 v2 cs ∧ Blk wx T [.int .i64 x1, v2, .slice none 0 0] ∧ Below g w2 wx)
  case first =>
    go_wp2_with fail
    go_loopw [9] (fun i wr => ∃ (k : Nat) (l : List Fld) (bad : Bool) (acc : List Opr) (v2 : Value), i = .int .i64 k ∧ k ≤ k4 ∧ acc.length ≤ k ∧ rdMany rrOpr (k4 - k) l bad acc = (cs, l5, b5) ∧ wfL l ∧ RRd wr g g l bad ∧ Own oprRep wr (T + 1) (fun _ => False) 29 v2 acc ∧ Blk wr T [.int .i64 x1, v2, .slice none 0 0] ∧ Below g w2 wr) (fun i _ => k4 - (intOf i).toNat)
    case atStart => exact ⟨0, l4, b4, [], _, rfl, Nat.zero_le _, Nat.le_refl _, by have := HR5.out; rw [Int.toNat_natCast] at this; exact this.symm, HW4.out, RD6.out, Own.nil _ _ _ (fun _ h => h.elim) _ _, T6.out, BE6.out⟩
    case round =>
      obtain ⟨k, l, bad, acc, v2, rfl, hk, hlen, hrest, hwf, hrd, hown, hat, hbel⟩ := hrel
      have hTs := hat.lt
      have RD := Lib.hid hrd
      have OW := Lib.hid hown
      have AT := Lib.hid hat
      have BE := Lib.hid hbel
      have HRE := Lib.hid hrest
      have HWF := Lib.hid hwf
      have HRT : Hid (∀ q, rowOf v2 = some q → T < q) := Lib.hid (fun q hq => Nat.lt_of_succ_le (OW.out.row_ge hq))
      obtain ⟨Ar, nr, cr, ar, lr, r0, r1, r2, rz, _⟩ := hrd
      clear hown hbel hrest hwf RD6 T6 BE6
      by_cases hex : k4 - k = 0 ∨ bad = true
      · have hf := HRE.out
        rw [rdMany_stop hex] at hf
        injection hf with e1 e2
        injection e2 with e2 e3
        subst e1 e2 e3
        clear hat HRE
        have hd : decide ((k : Int) < (k4 : Int)) = false ∨ (decide ((k : Int) < (k4 : Int)) = true ∧ bad = true) := by
          by_cases e : k < k4
          · right; exact ⟨decide_eq_true (by omega), hex.resolve_left (by omega)⟩
          · left; exact decide_eq_false (by omega)
        clear hex
        rcases hd with hd | ⟨hd, rfl⟩
        · have hdn : decide (k < k4) = false := by simpa using hd
          go_wp2_with fail
          go_meet
          case rel => exact ⟨v2, HWF.out, by omega, RD.out, OW.out, AT.out, BE.out⟩
        · have hdn : decide (k < k4) = true := by simpa using hd
          go_wp2_with fail
          go_meet
          case rel => exact ⟨v2, HWF.out, by omega, RD.out, OW.out, AT.out, BE.out⟩
      · have hk2 : k < k4 := by omega
        have hbad : bad = false := by cases bad; rfl; exact absurd (.inr rfl) hex
        subst hbad
        have hd : decide ((k : Int) < (k4 : Int)) = true := decide_eq_true (by omega)
        have hdn : decide (k < k4) = true := decide_eq_true (by omega)
        obtain ⟨t0, t1, t2, tz⟩ := hat.c3
        obtain ⟨⟨y1, m1, d1⟩, hy1⟩ : ∃ a, a = rintP l false 1099511627776 := ⟨_, rfl⟩
        obtain ⟨⟨⟨yt, yk, yg, yv⟩, lq, bq⟩, hy2⟩ : ∃ a, a = rrChg m1 d1 := ⟨_, rfl⟩
        have hrr : rrOpr l false = (⟨y1, yt, yk, yg, yv⟩, lq, bq) := by unfold rrOpr; rw [← hy1]; dsimp only; rw [← hy2]
        have hwq := rrOpr_wf l false HWF.out
        rw [hrr] at hwq
        have HWQ := Lib.hid hwq
        have HY1 := Lib.hid hy1
        have HY2 := Lib.hid hy2
        have HNX := Lib.hid (show rdMany rrOpr (k4 - (k + 1)) lq bq (acc ++ [⟨y1, yt, yk, yg, yv⟩]) = (cs, l5, b5) by have h := HRE.out; rw [show k4 - k = (k4 - (k + 1)) + 1 by omega, rdMany_next, hrr] at h; exact h)
        clear hy1 hy2 hrr hwq hex hat
        go_upto_region 12 with (first
          | (go_at_call 64; (with_reducible refine (rint_any g g l false 1099511627776 _ RD.out (Nat.le_refl _)).mono ?_); rintro ev w8 ⟨rfl, rd8, gr8⟩; rw [← HY1.out] at rd8 ⊢; have AT8 := Lib.hid ((AT.out.grown gr8 (fun k hk => by injection hk with hk; omega)).alloc (.cells #[.int .i64 y1, .int .i64 0, .int .i64 0, .bool false, .string ⟨#[]⟩] 29)); have OW8a := Lib.hid (OW.out.kept gr8 (fun k hk => ⟨fun e => (by have h1 := HRT.out k e; injection hk with hk; omega), id⟩)); have HRD8 := Lib.hid (show ∀ q, rowOf v2 = some q → q < w8.heap.size from fun q hq => OW8a.out.row_lt hq); have OW8 := Lib.hid (OW8a.out.alloc (.cells #[.int .i64 y1, .int .i64 0, .int .i64 0, .bool false, .string ⟨#[]⟩] 29)); have RD8 := Lib.hid (rd8.alloc (Nat.le_refl _) (.cells #[.int .i64 y1, .int .i64 0, .int .i64 0, .bool false, .string ⟨#[]⟩] 29)); have hT8 : T < w8.heap.size := Nat.lt_of_lt_of_le hTs gr8.size; have BE8 := Lib.hid ((BE.out.grown gr8 (by omega) (fun k hk => by injection hk with hk; omega)).alloc (by omega) (.cells #[.int .i64 y1, .int .i64 0, .int .i64 0, .bool false, .string ⟨#[]⟩] 29)); have D8 := Lib.hid (Blk.new (w := w8) (cs := #[.int .i64 y1, .int .i64 0, .int .i64 0, .bool false, .string ⟨#[]⟩]) (t := 29) rfl rfl); clear rd8 gr8 OW8a)
          | (go_at_call 65; (with_reducible refine (rchange_any g g m1 d1 _ RD8.out (Nat.le_refl _)).mono ?_); rintro ev w9 ⟨rfl, rd9, gr9⟩; rw [← HY2.out] at rd9 ⊢; have AT9 := Lib.hid (AT8.out.grown gr9 (fun k hk => by injection hk with hk; omega)); have OW9 := Lib.hid (OW8.out.kept gr9 (fun k hk => ⟨fun e => (by have h1 := HRT.out k e; injection hk with hk; omega), id⟩)); have RD9 := Lib.hid rd9; have hs9 : w8.heap.size + 1 ≤ w9.heap.size := (by have h := gr9.size; simpa using h); have BE9 := Lib.hid (BE8.out.grown gr9 (by simp; omega) (fun k hk => by injection hk with hk; omega)); have D9 := Lib.hid (D8.out.grown gr9 (fun k hk => by injection hk with hk; omega)); clear rd9 gr9 AT8 OW8 RD8 BE8 D8)
          | fail)
        obtain ⟨D, hD⟩ : ∃ D, D = w8.heap.size := ⟨_, rfl⟩
        rw [← hD] at D9 hs9 hT8 HRD8 ⊢
        clear hD
        obtain ⟨V, hV⟩ : ∃ V, V = w9.alloc (.cells #[.int .i64 yt, .int .i64 yk, .bool yg, .string yv] 77) := ⟨_, rfl⟩
        obtain ⟨E, hE⟩ : ∃ E, E = w9.heap.size := ⟨_, rfl⟩
        have KE := Lib.hid (show Blk V E [.int .i64 yt, .int .i64 yk, .bool yg, .string yv] by rw [hV, hE]; exact Blk.new rfl rfl)
        have KD := Lib.hid (show Blk V D [.int .i64 y1, .int .i64 0, .int .i64 0, .bool false, .string ⟨#[]⟩] by rw [hV]; exact D9.out.alloc _)
        have AT := Lib.hid (show Blk V T [.int .i64 x1, v2, .slice none 0 0] by rw [hV]; exact AT9.out.alloc _)
        have OW := Lib.hid (show Own oprRep V (T + 1) (fun _ => False) 29 v2 acc by rw [hV]; exact OW9.out.alloc _)
        have RDV := Lib.hid (show RRd V g g lq bq by rw [hV]; exact RD9.out.alloc (Nat.le_refl _) _)
        have BEV := Lib.hid (show Below g w2 V by rw [hV]; exact BE9.out.alloc (by omega) _)
        have hDE : D < E := by omega
        have hEV := KE.out.lt
        rw [← hE, ← hV]
        clear hV hE AT9 OW9 RD9 BE9 D9 r0 r1 r2 rz t0 t1 t2 tz
        obtain ⟨e0, e1, e2, e3, ez⟩ := KE.out.c4
        obtain ⟨d0, d1', d2, d3, d4, dz⟩ := KD.out.c5
        have hED : E ≠ D := by omega
        have HSK := Lib.hid (show ∀ W : World, Blk W E [.int .i64 yt, .int .i64 yk, .bool yg, .string yv] → (W.cell? ⟨E, 0, none⟩ = some (.int .i64 yt) ∧ W.cell? ⟨E, 1, none⟩ = some (.int .i64 yk) ∧ W.cell? ⟨E, 2, none⟩ = some (.bool yg) ∧ W.cell? ⟨E, 3, none⟩ = some (.string yv)) from fun W h => ⟨h.1 0 _ rfl, h.1 1 _ rfl, h.1 2 _ rfl, h.1 3 _ rfl⟩)
        go_region_held3 (fun w' => w'.cell? ⟨E, 0, none⟩ = some (.int .i64 yt) ∧ w'.cell? ⟨E, 1, none⟩ = some (.int .i64 yk) ∧ w'.cell? ⟨E, 2, none⟩ = some (.bool yg) ∧ w'.cell? ⟨E, 3, none⟩ = some (.string yv)) (first | with_reducible exact HSK.out _ KE.out.drew | with_reducible exact ⟨e0, e1, e2, e3⟩ | with_reducible exact HSK.out _ (KE.out.other hED 1 _).drew | with_reducible exact HSK.out _ ((KE.out.other hED 1 _).other hED 2 _).drew | with_reducible exact HSK.out _ (((KE.out.other hED 1 _).other hED 2 _).other hED 3 _).drew | with_reducible exact HSK.out _ ((((KE.out.other hED 1 _).other hED 2 _).other hED 3 _).other hED 4 _).drew) (first | fail)
        obtain ⟨V2, hV2⟩ : ∃ V2, V2 = ((((V.setCell ⟨D, 1, none⟩ (.int .i64 yt)).setCell ⟨D, 2, none⟩ (.int .i64 yk)).setCell ⟨D, 3, none⟩ (.bool yg)).setCell ⟨D, 4, none⟩ (.string yv)).drew := ⟨_, rfl⟩
        have KD2 := Lib.hid (show Blk V2 D [.int .i64 y1, .int .i64 yt, .int .i64 yk, .bool yg, .string yv] by rw [hV2]; exact ((((KD.out.put (j := 1) (by simp) (.int .i64 yt) rfl).put (j := 2) (by simp) (.int .i64 yk) rfl).put (j := 3) (by simp) (.bool yg) rfl).put (j := 4) (by simp) (.string yv) rfl).drew)
        have hDT : T ≠ D := Nat.ne_of_lt hT8
        have AT2 := Lib.hid (show Blk V2 T [.int .i64 x1, v2, .slice none 0 0] by rw [hV2]; exact ((((AT.out.other hDT 1 _).other hDT 2 _).other hDT 3 _).other hDT 4 _).drew)
        have RDV2 := Lib.hid (show RRd V2 g g lq bq by rw [hV2]; exact ((((RDV.out.stored (Nat.le_refl _) (Nat.lt_trans hgT hT8) 1 _).stored (Nat.le_refl _) (Nat.lt_trans hgT hT8) 2 _).stored (Nat.le_refl _) (Nat.lt_trans hgT hT8) 3 _).stored (Nat.le_refl _) (Nat.lt_trans hgT hT8) 4 _).drew)
        have hDg : g ≤ D := Nat.le_of_lt (Nat.lt_trans hgT hT8)
        have BEV2 := Lib.hid (show Below g w2 V2 by rw [hV2]; exact below_of_drew0 ((((BEV.out.setCell (p := ⟨D, 1, none⟩) hDg _).setCell (p := ⟨D, 2, none⟩) hDg _).setCell (p := ⟨D, 3, none⟩) hDg _).setCell (p := ⟨D, 4, none⟩) hDg _))
        have hne : ∀ (j : Nat) (k : Nat), some (⟨D, j, none⟩ : Addr).block = some k → (rowOf v2 = some k → False) := fun j k hk e => by have h1 := HRD8.out k e; injection hk with hk; dsimp only at hk; omega
        have OWV2 := Lib.hid (show Own oprRep V2 (T + 1) (fun _ => False) 29 v2 acc by rw [hV2]; exact ((((OW.out.kept (grownBy_set _ ⟨D, 1, none⟩ _) (fun k hk => ⟨hne 1 k hk, id⟩)).kept (grownBy_set _ ⟨D, 2, none⟩ _) (fun k hk => ⟨hne 2 k hk, id⟩)).kept (grownBy_set _ ⟨D, 3, none⟩ _) (fun k hk => ⟨hne 3 k hk, id⟩)).kept (grownBy_set _ ⟨D, 4, none⟩ _) (fun k hk => ⟨hne 4 k hk, id⟩)).drew)
        rw [← hV2]
        clear hV2 e0 e1 e2 e3 ez d0 d1' d2 d3 d4 dz HSK hED KE KD AT OW RDV BEV hne hEV
        obtain ⟨d0, d1', d2, d3, d4, dz⟩ := KD2.out.c5
        obtain ⟨t0, t1, t2, tz⟩ := AT2.out.c3
        have hTV := AT2.out.lt
        have hDV := KD2.out.lt
        have HWY := Lib.hid HWQ.out.1
        go_wp2_with (first
          | (at_builtin; refine wpList_append_Own _ rfl _ _ 22 rfl (T + 1) 29 i0 _ 48 Try.underlying22 hi hz0 hz1 hz2 rfl (R := oprRep) (S := fun _ => False) (l := acc) (l' := [⟨y1, yt, yk, yg, yv⟩]) v2 rfl (OWV2.out.alloc _) _ 1 1 rfl (Src.new (a := (⟨y1, yt, yk, yg, yv⟩ : Opr)) (cs := (⟨y1, yt, yk, yg, yv⟩ : Opr).cells) ⟨rfl, HWY.out⟩) (by simp only [maxLen]; omega) (by omega) (by omega) (by simp; omega) ?_; intro v10 w10 own10 gr10 at10; obtain ⟨A10, c10, hv10, hlc10, hcm10, sl10⟩ := own10.isSlB; obtain ⟨m10, hm10⟩ : ∃ m10, m10 = (acc ++ [(⟨y1, yt, yk, yg, yv⟩ : Opr)]).length := ⟨_, rfl⟩; rw [← hm10] at hv10; subst hv10; clear hm10 hlc10 hcm10 sl10; have AT10 := Lib.hid ((AT2.out.alloc _).grown gr10 (fun k hk e => by have := HRT.out k hk; omega)); obtain ⟨s0, s1, s2, sz⟩ := AT10.out.c3; have OW10 := Lib.hid own10; have RD10 := Lib.hid ((RDV2.out.alloc (Nat.le_refl _) _).grown (Nat.le_refl _) gr10 (fun k hk => by have := HRT.out k hk; omega)); have BE10 := Lib.hid ((BEV2.out.alloc (by omega) _).grown gr10 (by simp; omega) (fun k hk => by have := HRT.out k hk; omega)); clear own10 gr10 at10)
          | fail)
        go_roundw
        case rel => exact ⟨k + 1, lq, bq, acc ++ [⟨y1, yt, yk, yg, yv⟩], _, by go_num, by omega, by rw [List.length_append]; simp only [List.length_cons, List.length_nil]; omega, HNX.out, HWQ.out.2, RD10.out.stored (Nat.le_refl _) hgT 1 _, OW10.out.kept (grownBy_set w10 ⟨T, 1, none⟩ _) (fun k hk => ⟨fun e => (by have h1 := OW10.out.row_ge e; injection hk with hk; dsimp only at hk; omega), id⟩), AT10.out.put (by simp) _ rfl, BE10.out.setCell (Nat.le_of_lt hgT) _⟩
        case measure => simp [intOf]; omega
  case rest =>
    obtain ⟨v2, hwf, hl16, hrd, hown, hat, hbel⟩ := hcut
    have hTs := hat.lt
    have RD := Lib.hid hrd
    have OW := Lib.hid hown
    have AT := Lib.hid hat
    have BE := Lib.hid hbel
    have HRT : Hid (∀ q, rowOf v2 = some q → T < q) := Lib.hid (fun q hq => Nat.lt_of_succ_le (OW.out.row_ge hq))
    obtain ⟨Y, hY⟩ : ∃ Y, Y = wc.heap.size := ⟨_, rfl⟩
    have HRY := Lib.hid (show ∀ q, rowOf v2 = some q → q < Y by rw [hY]; exact fun q hq => OW.out.row_lt hq)
    have hTY : T < Y := by rw [hY]; exact hTs
    have HY0 := Lib.hid hY
    have hx6 := rintP_wf hwf b5 256 (by omega)
    rw [← HR6.out] at hx6
    have HW6 := Lib.hid hx6.2.2
    obtain ⟨k6, hk6⟩ := Int.eq_ofNat_of_zero_le hx6.1
    have hk62 : k6 ≤ 256 := by have := hx6.2.1; (try dsimp only at *); omega
    dsimp only at hk6
    subst hk6
    clear hY hx6 hat hrd hown hbel hwf RD6 T6 BE6 HR5 HW4
    go_upto_block 2 with (first
      | (go_at_call 64; (with_reducible refine (rint_any _ g l5 b5 256 _ RD.out (Nat.le_refl _)).mono ?_); rintro ev w10 ⟨rfl, rd10, gr10⟩; rw [← HR6.out] at rd10 ⊢; have RD10 := Lib.hid rd10; have AT10 := Lib.hid (AT.out.grown gr10 (fun k hk => by injection hk with hk; omega)); have OW10 := Lib.hid (OW.out.kept gr10 (fun k hk => ⟨fun e => (by have h1 := HRT.out k e; injection hk with hk; omega), id⟩)); have BE10 := Lib.hid (BE.out.grown gr10 (by omega) (fun k hk => by injection hk with hk; omega)); have hY10 : Y ≤ w10.heap.size := (by have := gr10.size; have := HY0.out; omega); clear rd10 gr10)
      | fail)
    go_cut [12] (fun i wx => ∃ v3 : Value, ts.length ≤ 256 ∧ RRd wx g g l7 b7 ∧ Own oprRep wx (T + 1) (fun _ => False) 29 v2 cs ∧ Own noteRep wx Y (fun _ => False) 27 v3 ts ∧ Blk wx T [.int .i64 x1, v2, v3] ∧ Below g w2 wx ∧ Y ≤ wx.heap.size)
    case first =>
      go_wp2_with fail
      go_loopw [12] (fun i wr => ∃ (k : Nat) (l : List Fld) (bad : Bool) (acc2 : List Note) (v3 : Value), i = .int .i64 k ∧ k ≤ k6 ∧ acc2.length ≤ k ∧ rdMany rrNote (k6 - k) l bad acc2 = (ts, l7, b7) ∧ wfL l ∧ RRd wr g g l bad ∧ Own oprRep wr (T + 1) (fun _ => False) 29 v2 cs ∧ Own noteRep wr Y (fun _ => False) 27 v3 acc2 ∧ Blk wr T [.int .i64 x1, v2, v3] ∧ Below g w2 wr ∧ Y ≤ wr.heap.size) (fun i _ => k6 - (intOf i).toNat)
      case atStart => exact ⟨0, l6, b6, [], _, rfl, Nat.zero_le _, Nat.le_refl _, by have := HR7.out; rw [Int.toNat_natCast] at this; exact this.symm, HW6.out, RD10.out, OW10.out, Own.nil _ _ _ (fun _ h => h.elim) _ _, AT10.out, BE10.out, hY10⟩
      case round =>
        obtain ⟨k, l, bad, acc2, v3, rfl, hk, hlen, hrest, hwf, hrd, hown, hown3, hat, hbel, hYs⟩ := hrel
        have hTs := hat.lt
        have RD := Lib.hid hrd
        have OW := Lib.hid hown
        have OV := Lib.hid hown3
        have AT := Lib.hid hat
        have BE := Lib.hid hbel
        have HRE := Lib.hid hrest
        have HWF := Lib.hid hwf
        have HRV : Hid (∀ q, rowOf v3 = some q → Y ≤ q) := Lib.hid (fun q hq => OV.out.row_ge hq)
        obtain ⟨Ar, nr, cr, ar, lr, r0, r1, r2, rz, _⟩ := hrd
        clear hown hown3 hbel hrest hwf RD10 OW10 AT10 BE10 hY10
        by_cases hex : k6 - k = 0 ∨ bad = true
        · have hf := HRE.out
          rw [rdMany_stop hex] at hf
          injection hf with e1 e2
          injection e2 with e2 e3
          subst e1 e2 e3
          clear hat HRE
          have hd : decide ((k : Int) < (k6 : Int)) = false ∨ (decide ((k : Int) < (k6 : Int)) = true ∧ bad = true) := by
            by_cases e : k < k6
            · right; exact ⟨decide_eq_true (by omega), hex.resolve_left (by omega)⟩
            · left; exact decide_eq_false (by omega)
          clear hex
          rcases hd with hd | ⟨hd, rfl⟩
          · have hdn : decide (k < k6) = false := by simpa using hd
            go_wp2_with fail
            go_meet
            case rel => exact ⟨v3, by omega, RD.out, OW.out, OV.out, AT.out, BE.out, hYs⟩
          · have hdn : decide (k < k6) = true := by simpa using hd
            go_wp2_with fail
            go_meet
            case rel => exact ⟨v3, by omega, RD.out, OW.out, OV.out, AT.out, BE.out, hYs⟩
        · have hk2 : k < k6 := by omega
          have hbad : bad = false := by cases bad; rfl; exact absurd (.inr rfl) hex
          subst hbad
          have hd : decide ((k : Int) < (k6 : Int)) = true := decide_eq_true (by omega)
          have hdn : decide (k < k6) = true := decide_eq_true (by omega)
          obtain ⟨t0, t1, t2, tz⟩ := hat.c3
          obtain ⟨⟨z1, m1, e1⟩, hy1⟩ : ∃ a, a = rintP l false 2 := ⟨_, rfl⟩
          obtain ⟨⟨z2, m2, e2⟩, hy2⟩ : ∃ a, a = rintP m1 e1 64 := ⟨_, rfl⟩
          obtain ⟨⟨z3, m3, e3⟩, hy3⟩ : ∃ a, a = rintP m2 e2 8 := ⟨_, rfl⟩
          obtain ⟨⟨z4, m4, e4⟩, hy4⟩ : ∃ a, a = rintP m3 e3 8 := ⟨_, rfl⟩
          obtain ⟨⟨z5, m5, e5⟩, hy5⟩ : ∃ a, a = rintP m4 e4 1099511627776 := ⟨_, rfl⟩
          obtain ⟨⟨z6, m6, e6⟩, hy6⟩ : ∃ a, a = rintP m5 e5 1099511627776 := ⟨_, rfl⟩
          obtain ⟨⟨z7, lq, bq⟩, hy7⟩ : ∃ a, a = rflagP m6 e6 := ⟨_, rfl⟩
          have hrr : rrNote l false = (⟨z1, z2, z3, z4, z5, z6, z7⟩, lq, bq) := by unfold rrNote; rw [← hy1]; dsimp only; rw [← hy2]; dsimp only; rw [← hy3]; dsimp only; rw [← hy4]; dsimp only; rw [← hy5]; dsimp only; rw [← hy6]; dsimp only; rw [← hy7]
          have hwq := rrNote_wf l false HWF.out
          rw [hrr] at hwq
          have HWQ := Lib.hid hwq
          have HY1 := Lib.hid hy1
          have HY2 := Lib.hid hy2
          have HY3 := Lib.hid hy3
          have HY4 := Lib.hid hy4
          have HY5 := Lib.hid hy5
          have HY6 := Lib.hid hy6
          have HY7 := Lib.hid hy7
          have HNX := Lib.hid (show rdMany rrNote (k6 - (k + 1)) lq bq (acc2 ++ [⟨z1, z2, z3, z4, z5, z6, z7⟩]) = (ts, l7, b7) by have h := HRE.out; rw [show k6 - k = (k6 - (k + 1)) + 1 by omega, rdMany_next, hrr] at h; exact h)
          clear hy1 hy2 hy3 hy4 hy5 hy6 hy7 hrr hwq hex hat
          go_upto_region 25 with (first
            | (go_at_call 64; (with_reducible refine (rint_any g g l false 2 _ RD.out (Nat.le_refl _)).mono ?_); rintro ev w8 ⟨rfl, rd8, gr8⟩; rw [← HY1.out] at rd8 ⊢; have N1 := Lib.hid (NS.first rd8 gr8 OW.out OV.out AT.out BE.out hgT hTY hYs (a := #[.int .i64 z1, .int .i64 0, .int .i64 0, .int .i64 0, .int .i64 0, .int .i64 0, .bool false]) rfl 27); have hD8 : w8.heap.size < (w8.alloc (.cells #[.int .i64 z1, .int .i64 0, .int .i64 0, .int .i64 0, .int .i64 0, .int .i64 0, .bool false] 27)).heap.size := (by simp); clear rd8 gr8)
            | (go_at_call 64; (with_reducible refine (rint_any g g m1 e1 64 _ N1.out.rd (Nat.le_refl _)).mono ?_); rintro ev w9 ⟨rfl, rd9, gr9⟩; rw [← HY2.out] at rd9 ⊢; have NC := N1.out.call rd9 gr9; obtain ⟨n0, n1, n2, n3, n4, n5, n6, nz⟩ := NC.d.c7; have N2 := Lib.hid (NC.put (j := 1) (by simp) (.int .i64 z2) rfl); clear rd9 gr9 NC N1)
            | (go_at_call 64; (with_reducible refine (rint_any g g m2 e2 8 _ N2.out.rd (Nat.le_refl _)).mono ?_); rintro ev w10 ⟨rfl, rd9, gr9⟩; rw [← HY3.out] at rd9 ⊢; clear n0 n1 n2 n3 n4 n5 n6 nz; have NC := N2.out.call rd9 gr9; obtain ⟨n0, n1, n2, n3, n4, n5, n6, nz⟩ := NC.d.c7; have N3 := Lib.hid (NC.put (j := 2) (by simp) (.int .i64 z3) rfl); clear rd9 gr9 NC N2)
            | (go_at_call 64; (with_reducible refine (rint_any g g m3 e3 8 _ N3.out.rd (Nat.le_refl _)).mono ?_); rintro ev w11 ⟨rfl, rd9, gr9⟩; rw [← HY4.out] at rd9 ⊢; clear n0 n1 n2 n3 n4 n5 n6 nz; have NC := N3.out.call rd9 gr9; obtain ⟨n0, n1, n2, n3, n4, n5, n6, nz⟩ := NC.d.c7; have N4 := Lib.hid (NC.put (j := 3) (by simp) (.int .i64 z4) rfl); clear rd9 gr9 NC N3)
            | (go_at_call 64; (with_reducible refine (rint_any g g m4 e4 1099511627776 _ N4.out.rd (Nat.le_refl _)).mono ?_); rintro ev w12 ⟨rfl, rd9, gr9⟩; rw [← HY5.out] at rd9 ⊢; clear n0 n1 n2 n3 n4 n5 n6 nz; have NC := N4.out.call rd9 gr9; obtain ⟨n0, n1, n2, n3, n4, n5, n6, nz⟩ := NC.d.c7; have N5 := Lib.hid (NC.put (j := 4) (by simp) (.int .i64 z5) rfl); clear rd9 gr9 NC N4)
            | (go_at_call 64; (with_reducible refine (rint_any g g m5 e5 1099511627776 _ N5.out.rd (Nat.le_refl _)).mono ?_); rintro ev w13 ⟨rfl, rd9, gr9⟩; rw [← HY6.out] at rd9 ⊢; clear n0 n1 n2 n3 n4 n5 n6 nz; have NC := N5.out.call rd9 gr9; obtain ⟨n0, n1, n2, n3, n4, n5, n6, nz⟩ := NC.d.c7; have N6 := Lib.hid (NC.put (j := 5) (by simp) (.int .i64 z6) rfl); clear rd9 gr9 NC N5)
            | (go_at_call 66; (with_reducible refine (rflag_any g g m6 e6 _ N6.out.rd (Nat.le_refl _)).mono ?_); rintro ev w14 ⟨rfl, rd9, gr9⟩; rw [← HY7.out] at rd9 ⊢; clear n0 n1 n2 n3 n4 n5 n6 nz; have NC := N6.out.call rd9 gr9; obtain ⟨n0, n1, n2, n3, n4, n5, n6, nz⟩ := NC.d.c7; have N7 := Lib.hid (NC.put (j := 6) (by simp) (.bool z7) rfl); clear rd9 gr9 NC N6)
            | fail)
          obtain ⟨D, hD⟩ : ∃ D, D = w8.heap.size := ⟨_, rfl⟩
          rw [← hD] at N7 ⊢
          obtain ⟨V2, hV2⟩ : ∃ V2, V2 = w14.setCell ⟨D, 6, none⟩ (.bool z7) := ⟨_, rfl⟩
          rw [← hV2] at N7 ⊢
          clear hD hV2 n0 n1 n2 n3 n4 n5 n6 nz r0 r1 r2 rz t0 t1 t2 tz hD8
          obtain ⟨n0, n1, n2, n3, n4, n5, n6, nz⟩ := N7.out.d.c7
          obtain ⟨t0, t1, t2, tz⟩ := N7.out.at_.c3
          have hTV := N7.out.at_.lt
          have hDV := N7.out.d.lt
          have hYD := N7.out.hYD
          have HWY := Lib.hid HWQ.out.1
          go_wp2_with (first
            | (at_builtin; refine wpList_append_Own _ rfl _ _ 23 rfl Y 27 j0 _ 56 Try.underlying23 ji jz0 jz1 jz2 rfl (R := noteRep) (S := fun _ => False) (l := acc2) (l' := [⟨z1, z2, z3, z4, z5, z6, z7⟩]) v3 rfl (N7.out.ov.alloc _) _ 1 1 rfl (Src.new (a := (⟨z1, z2, z3, z4, z5, z6, z7⟩ : Note)) (cs := (⟨z1, z2, z3, z4, z5, z6, z7⟩ : Note).cells) ⟨rfl, HWY.out⟩) (by simp only [maxLen]; omega) (by omega) (by omega) (by simp; omega) ?_; intro v10 w20 own10 gr10 at10; obtain ⟨A10, c10, hv10, hlc10, hcm10, sl10⟩ := own10.isSlB; obtain ⟨m10, hm10⟩ : ∃ m10, m10 = (acc2 ++ [(⟨z1, z2, z3, z4, z5, z6, z7⟩ : Note)]).length := ⟨_, rfl⟩; rw [← hm10] at hv10; subst hv10; clear hm10 hlc10 hcm10 sl10; have AT20 := Lib.hid ((N7.out.at_.alloc _).grown gr10 (fun k hk e => by have := HRV.out k hk; omega)); obtain ⟨s0, s1, s2, sz⟩ := AT20.out.c3; have OV20 := Lib.hid own10; have OW20 := Lib.hid ((N7.out.ow.alloc _).kept gr10 (fun k hk => ⟨fun e => (by have h1 := HRV.out k hk; have h2 := HRY.out k e; omega), id⟩)); have RD20 := Lib.hid ((N7.out.rd.alloc (Nat.le_refl _) _).grown (Nat.le_refl _) gr10 (fun k hk => by have := HRV.out k hk; omega)); have BE20 := Lib.hid ((N7.out.be.alloc (by omega) _).grown gr10 (by simp; omega) (fun k hk => by have := HRV.out k hk; omega)); have hYs20 : Y ≤ w20.heap.size := (by have := gr10.size; simp at this; omega); clear own10 gr10 at10)
            | fail)
          go_roundw
          case rel => exact ⟨k + 1, lq, bq, acc2 ++ [⟨z1, z2, z3, z4, z5, z6, z7⟩], _, by go_num, by omega, by rw [List.length_append]; simp only [List.length_cons, List.length_nil]; omega, HNX.out, HWQ.out.2, RD20.out.stored (Nat.le_refl _) hgT 2 _, OW20.out.kept (grownBy_set w20 ⟨T, 2, none⟩ _) (fun k hk => ⟨fun e => (by have h1 := OW20.out.row_ge e; injection hk with hk; dsimp only at hk; omega), id⟩), OV20.out.kept (grownBy_set w20 ⟨T, 2, none⟩ _) (fun k hk => ⟨fun e => (by have h1 := OV20.out.row_ge e; injection hk with hk; dsimp only at hk; omega), id⟩), AT20.out.put (by simp) _ rfl, BE20.out.setCell (Nat.le_of_lt hgT) _, by simpa using hYs20⟩
          case measure => simp [intOf]; omega
    case rest =>
      clear RD OW AT BE RD10 OW10 AT10 BE10 hY10 HR7 HW6
      obtain ⟨v3, hl6, hrd, hown, hown3, hat, hbel, hYs⟩ := hcut
      have hTs := hat.lt
      have RD := Lib.hid hrd
      have OW := Lib.hid hown
      have OV := Lib.hid hown3
      have AT := Lib.hid hat
      have BE := Lib.hid hbel
      have R0 := Lib.hid (R2.out.below BE.out (by omega))
      clear hrd hown hown3 hat hbel
      have BEw := Lib.hid (BEL2.out.trans (BE.out.mono (by omega)))
      have HRD2 := Lib.hid (show rrItem (decV b) = (⟨x1, cs, ts⟩, l7, b7) by rw [← HLL.out]; exact HRD.out)
      cases hd : (!b7 && l7.isEmpty)
      · have HD := Lib.hid hd
        have HX := Lib.hid (show rdecIV b = item0 ∧ rdecIE b = 3 from decG_no (z := item0) (may := mayItem) HE.out HRD2.out (by rintro ⟨rfl, rfl, _⟩; cases hd))
        obtain ⟨r0, r1, r2, q2⟩ := R0.out.c3
        have hRs := R0.out.lt
        clear hd
        go_wp2_with (first
          | (go_at_call 67; (with_reducible refine (rend_any g g l7 b7 _ RD.out).mono ?_); rintro ev w' ⟨rfl, k9, rfl⟩; rw [HD.out])
          | fail)
        refine bodyPost_ret (by simp [results, Try.results27, go_sem, r0, r1, r2]; try rfl) rfl ?_
        rw [HX.out.1, HX.out.2]
        exact ⟨none, 0, 0, none, 0, 0, rfl, IsSl.nil, Nat.le_refl _, Nat.zero_le _, IsSl.nil, Nat.le_refl _, Nat.zero_le _, set3_below (below_drewN BEw.out _) (Nat.le_refl _) _ _ _⟩
      · have HD := Lib.hid hd
        obtain ⟨rfl, rfl⟩ : b7 = false ∧ l7 = [] := by
          cases b7 <;> cases l7 <;> simp at hd ⊢
        obtain ⟨Ac, cc, hvc, hlc, hmc, slc⟩ := OW.out.isSlR
        subst hvc
        obtain ⟨As, cs', hvs, hls, hms, sls⟩ := OV.out.isSlR
        subst hvs
        obtain ⟨t0, t1, t2, y2⟩ := AT.out.c3
        obtain ⟨r0, r1, r2, q2⟩ := R0.out.c3
        have hRs := R0.out.lt
        have SLC := Lib.hid slc
        have SLS := Lib.hid sls
        obtain ⟨nc, hnc⟩ : ∃ nc, nc = cs.length := ⟨_, rfl⟩
        obtain ⟨ns, hns⟩ : ∃ ns, ns = ts.length := ⟨_, rfl⟩
        rw [← hnc] at SLC hlc t1
        try rw [← hnc]
        rw [← hns] at SLS hls t2
        try rw [← hns]
        clear hd OW OV AT HRT HRY hnc hns slc sls
        have HM0 : Hid (∀ k, Calls Try.prog 21 #[.agg #[.int .i64 x1, .slice Ac nc cc, .slice As ns cs']] (wc.drewN k) fun e w' => e = .returned (.bool (mayItem ⟨x1, cs, ts⟩)) ∧ Below (wc.drewN k).heap.size (wc.drewN k) w') := Lib.hid (fun k => refmayItem_any ⟨x1, cs, ts⟩ Ac nc cc As ns cs' (wc.drewN k) (SLC.out.weak fun _ h => h.2) (SLS.out.weak fun _ h => h.2) hlc hmc hls hms)
        cases hm : mayItem ⟨x1, cs, ts⟩
        · have HM := Lib.hid hm
          have HX := Lib.hid (show rdecIV b = item0 ∧ rdecIE b = 3 from decG_no (z := item0) (may := mayItem) HE.out HRD2.out (by rintro ⟨_, _, h⟩; rw [hm] at h; cases h))
          clear hm
          go_wp2_with (first
            | (go_at_call 67; (with_reducible refine (rend_any g g [] false _ RD.out).mono ?_); rintro ev w' ⟨rfl, k9, rfl⟩; rw [HD.out])
            | (go_at_call 21; (with_reducible refine (HM0.out k9).mono ?_); rintro ev w11 ⟨rfl, bel11⟩; rw [HM.out]; obtain ⟨r0, r1, r2, q2⟩ := ((R0.out.drewN k9).after bel11).c3; have hRs := Nat.lt_of_lt_of_le hRs bel11.size; have BEX := Lib.hid ((below_drewN BEw.out k9).trans (bel11.mono BEw.out.size)); clear bel11)
            | fail)
          refine bodyPost_ret (by simp [results, Try.results27, go_sem, r0, r1, r2]; try rfl) rfl ?_
          rw [HX.out.1, HX.out.2]
          exact ⟨none, 0, 0, none, 0, 0, rfl, IsSl.nil, Nat.le_refl _, Nat.zero_le _, IsSl.nil, Nat.le_refl _, Nat.zero_le _, set3_below BEX.out (Nat.le_refl _) _ _ _⟩
        · have HM := Lib.hid hm
          have HX := Lib.hid (show rdecIV b = ⟨x1, cs, ts⟩ ∧ rdecIE b = 0 from decG_ok (z := item0) (may := mayItem) HE.out HRD2.out hm)
          clear hm
          go_wp2_with (first
            | (go_at_call 67; (with_reducible refine (rend_any g g [] false _ RD.out).mono ?_); rintro ev w' ⟨rfl, k9, rfl⟩; rw [HD.out])
            | (go_at_call 21; (with_reducible refine (HM0.out k9).mono ?_); rintro ev w11 ⟨rfl, bel11⟩; rw [HM.out]; obtain ⟨r0, r1, r2, q2⟩ := ((R0.out.drewN k9).after bel11).c3; have t0 := (bel11.cell (p := ⟨T, 0, none⟩) hTs).trans t0; have t1 := (bel11.cell (p := ⟨T, 1, none⟩) hTs).trans t1; have t2 := (bel11.cell (p := ⟨T, 2, none⟩) hTs).trans t2; have hRs := Nat.lt_of_lt_of_le hRs bel11.size; have BEX := Lib.hid ((below_drewN BEw.out k9).trans (bel11.mono BEw.out.size)); have SC := Lib.hid (SLC.out.keep fun p hp => bel11.cell hp.2); have SS := Lib.hid (SLS.out.keep fun p hp => bel11.cell hp.2); have hs11 := bel11.size; clear bel11)
            | fail)
          refine bodyPost_ret (by simp [results, Try.results27, go_sem, r0, r1, r2]; try rfl) rfl ?_
          rw [HX.out.1, HX.out.2]
          exact ⟨Ac, nc, cc, As, ns, cs', rfl, (set3_keep SC.out (by omega) _ _ _).weak (fun b hb => by simp at hs11 ⊢; omega), hlc, hmc, (set3_keep SS.out (by omega) _ _ _).weak (fun b hb => by simp at hs11 ⊢; omega), hls, hms, set3_below BEX.out (Nat.le_refl _) _ _ _⟩

theorem refDecodeItem_any (A : Option Addr) (n c : Nat) (b : List UInt8) (w : World) (h : IsSl byteRep w (· < w.heap.size) A n b) (h1 : n ≤ c) (h2 : c ≤ maxLen) :
    Calls Try.prog 27 #[.slice A n c] w fun e w' => ItemRes (rdecIV b) (rdecIE b) w e w' := by
  by_cases he : decE b = 0
  · exact refDecodeItem_ok A n c b w h h1 h2 he
  · exact refDecodeItem_err A n c b w h h1 h2 he
end Go.Proofs.Ytcohheoahdbgmaa
