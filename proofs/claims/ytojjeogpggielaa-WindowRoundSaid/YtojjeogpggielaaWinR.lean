/- The walk of the law WindowRound. -/
import Derived.Test.YtojjeogpggielaaWinT
import Derived.Test.YtojjeogpggielaaHelpT
set_option linter.unusedVariables false
set_option linter.unusedSimpArgs false
namespace Go.Proofs.Ytojjeogpggielaa
open Go.RowKit

theorem Own.slIn {α : Type} {R : Rep α} {w : World} {base : Nat} {S' : Nat → Prop} {e : TypeId} {A : Option Addr} {n c : Nat} {l : List α} (h : Own R w base (fun _ => False) e (.slice A n c) l) (hg : ∀ g, base ≤ g → g < w.heap.size → S' g) : IsSl R w S' A n l := by
  obtain ⟨A', c', hv, _, _, sl⟩ := h.isSl (S' := S') (fun _ h => h.elim) hg
  injection hv with h1 h2 h3
  subst h1 h2
  exact sl

theorem ws_low_no {w0 w : World} {S : Nat → Prop} {g : Nat} {x : Win} (h : WS w0 w S g x) (mark : Int) (hno : ¬ (x.state = 3 ∧ mark = x.mark)) :
    Calls Try.prog 26 #[.pointer (some ⟨g, 0, none⟩), .int .i64 mark] w fun e w' => e = .returned (.bool false) ∧ WS w0 w' S g x ∧ Rest S w w' := by
  refine (ws_low h mark).mono ?_
  rintro e w' ⟨rfl, o, r⟩
  unfold Win.low at o
  rw [if_neg hno] at o
  exact ⟨by rw [decide_eq_false hno], o, r⟩

theorem ws_low_ok {w0 w : World} {S : Nat → Prop} {g : Nat} {x : Win} (h : WS w0 w S g x) (mark : Int) (hs : x.state = 3) (hm : mark = x.mark) :
    Calls Try.prog 26 #[.pointer (some ⟨g, 0, none⟩), .int .i64 mark] w fun e w' => e = .returned (.bool true) ∧ WS w0 w' S g { x with state := 4 } ∧ Rest S w w' := by
  refine (ws_low h mark).mono ?_
  rintro e w' ⟨rfl, o, r⟩
  unfold Win.low at o
  rw [if_pos ⟨hs, hm⟩] at o
  exact ⟨by rw [decide_eq_true ⟨hs, hm⟩], o, r⟩

theorem ws_shut_ok {w0 w : World} {S : Nat → Prop} {g : Nat} {x : Win} (h : WS w0 w S g x) (hs : x.state = 2) :
    Calls Try.prog 25 #[.pointer (some ⟨g, 0, none⟩)] w fun e w' => e = .returned (.bool true) ∧ WS w0 w' S g { x with state := 3 } ∧ Rest S w w' := by
  refine (ws_shut h).mono ?_
  rintro e w' ⟨rfl, o, r⟩
  unfold Win.shut at o
  rw [if_pos hs] at o
  exact ⟨by rw [decide_eq_true hs], o, r⟩

/-- Is a row of table t changed by one of these? -/
def hitB (t : Int) (c : List Chg) (x : Row) : Bool := c.any (fun y => decide (y.table = t ∧ y.key = x.key))

theorem seeL_filter (t : Int) : ∀ (c : List Chg) (rs : List Row), seeL t c rs = rs.filter (fun x => !hitB t c x)
  | [], rs => by
    rw [seeL]
    symm
    exact List.filter_eq_self.2 (fun x _ => rfl)
  | y :: c, rs => by
    rw [seeL, seeL_filter t c]
    by_cases h : y.table = t
    · rw [if_pos h, List.filter_filter]
      congr 1
      funext x
      by_cases e : y.key = x.key
      · simp [hitB, keepK, h, e]
      · have e2 : ¬ x.key = y.key := fun h => e h.symm
        simp [hitB, keepK, h, e, e2]
    · rw [if_neg h]
      congr 1
      funext x
      simp [hitB, h]

theorem hitB_snoc (t : Int) (c : List Chg) (y : Chg) (x : Row) : hitB t (c ++ [y]) x = (hitB t c x || decide (y.table = t ∧ y.key = x.key)) := by
  unfold hitB; rw [List.any_append]; simp

/-- What is not hit, as ops. -/
def wantL (lsn t : Int) (c : List Chg) (rs : List Row) : List Opr := (rs.filter (fun x => !hitB t c x)).map (opOf lsn t)
theorem wantL_snoc (lsn t : Int) (c : List Chg) (rs : List Row) (x : Row) : wantL lsn t c (rs ++ [x]) = if hitB t c x = true then wantL lsn t c rs else wantL lsn t c rs ++ [opOf lsn t x] := by
  unfold wantL
  rw [List.filter_append, List.map_append]
  by_cases h : hitB t c x = true
  · simp [h]
  · simp [h]

theorem IsSl.chgc {w w' : World} {T : Nat → Prop} {n k : Nat} {A : Option Addr} {l : List Chg} (h : IsSl chgRep w T A n l) (hk : k < n) (hw : ∀ p : Addr, T p.block → w'.cell? p = w.cell? p) :
    ∃ b off ct ck cg cv, A = some ⟨b, off, none⟩ ∧ T b ∧ l[k]? = some ⟨ct, ck, cg, cv⟩ ∧ Chg.wf ⟨ct, ck, cg, cv⟩ ∧ w'.cell? ⟨b, off + k * 4, none⟩ = some (.int .i64 ct) ∧ w'.cell? ⟨b, off + k * 4 + 1, none⟩ = some (.int .i64 ck) ∧ w'.cell? ⟨b, off + k * 4 + 2, none⟩ = some (.bool cg) ∧ w'.cell? ⟨b, off + k * 4 + 3, none⟩ = some (.string cv) := by
  obtain ⟨b, off, ⟨ct, ck, cg, cv⟩, cs, rfl, hb, hx, ⟨rfl, hw2⟩, hc⟩ := h.at_ hk
  exact ⟨b, off, ct, ck, cg, cv, rfl, hb, hx, hw2, (hw _ hb).trans (hc 0 _ rfl), (hw _ hb).trans (hc 1 _ rfl), (hw _ hb).trans (hc 2 _ rfl), (hw _ hb).trans (hc 3 _ rfl)⟩

theorem IsSl.wfs_row {w : World} {S : Nat → Prop} {A : Option Addr} {n : Nat} {l : List Row} (h : IsSl rowRep w S A n l) : ∀ r ∈ l, r.wf := by
  intro r hr
  obtain ⟨k, hk, rfl⟩ := List.mem_iff_getElem.1 hr
  obtain ⟨_, _, x, _, _, hx, hw, _, _⟩ := h.row (k := k) (by rw [h.len]; exact hk) (fun _ _ => rfl)
  rw [List.getElem?_eq_getElem hk] at hx
  injection hx with hx
  rw [hx]
  exact hw

set_option maxHeartbeats 16000000 in
set_option maxRecDepth 100000 in
theorem windowRound_walk (w : World) (n : Int) (hn : I64 n) (A : Option Addr) (nA cA : Nat) (l : List Op26) (h : IsSl op26Rep w (· < w.heap.size) A nA l) (hcA : nA ≤ cA) (hmA : cA ≤ maxLen) :
    Calls Try.prog 5 #[.int .i64 n, .slice A nA cA] w fun e w' => e = .returned (.bool true) ∧ Below w.heap.size w w' := by
  have H := Lib.hid h
  obtain ⟨m0, hm0⟩ : ∃ m0, m0 = modOf n 6 := ⟨_, rfl⟩
  have hrm := modOf_range n 6 (by omega)
  rw [← hm0] at hrm
  obtain ⟨hm00, hm01⟩ := hrm
  have HM0 := Lib.hid hm0
  obtain ⟨k, hk⟩ := Int.eq_ofNat_of_zero_le (show 0 ≤ 1 + m0 by omega)
  have HK := Lib.hid (show (1 : Int) + m0 = (k : Int) from hk)
  have hk1 : 1 ≤ k := by omega
  have hk2 : k ≤ 6 := by omega
  have HK1 := Lib.hid (show (1 : Int) ≤ (k : Int) ∧ (k : Int) ≤ 64 by omega)
  obtain ⟨g, hg⟩ : ∃ g, g = w.heap.size := ⟨_, rfl⟩
  have HG := Lib.hid hg
  obtain ⟨i0, hi, hz0, hz1, hz2⟩ := info_parts info_opr
  clear hm0 hk hg hn h
  go_enter Try.func5, Try.ntmps5
  go_wp2_with (first
    | (go_at_call 15; (with_reducible refine (mod_any n 6 _ (by omega) (by omega)).mono ?_); rintro e w' ⟨rfl, rfl⟩; rw [← HM0.out])
    | (go_at_call 16; (rw [HK.out]); (with_reducible refine (ws_new (k : Int) w HK1.out.1 HK1.out.2).mono ?_); rintro e w1 ⟨rfl, ws1⟩; rw [← HG.out] at ws1 ⊢; have W1 := Lib.hid ws1; clear ws1)
    | fail)
  go_loopw [8] (fun i wr => ∃ p : Nat, i = .int .i64 p ∧ p ≤ nA ∧ p ≤ 20 ∧ WS w wr (· < g) g (win0 (k : Int))) (fun i _ => 20 - (intOf i).toNat)
  case atStart => exact ⟨0, rfl, Nat.zero_le _, Nat.zero_le _, W1.out⟩
  case round =>
    obtain ⟨p, rfl, hp, hp20, hws⟩ := hrel
    have WR := Lib.hid hws
    clear hws
    by_cases hlt : p < nA
    · have hd : decide ((p : Int) < (nA : Int)) = true := decide_eq_true (by omega)
      have hdn : decide (p < nA) = true := decide_eq_true hlt
      by_cases hlt2 : p < 20
      · have hd2 : decide ((p : Int) < 20) = true := decide_eq_true (by omega)
        have hdn2 : decide (p < 20) = true := decide_eq_true hlt2
        have hp0 : (0 : Int) ≤ (p : Int) := by omega
        have hpn : (p : Int) < (nA : Int) := by omega
        obtain ⟨b0, off, o, cs, rfl, hb0, ho, ⟨c6, c7, rfl, wk, wi, wt, wn, wm, wa, ⟨A6, n6, cc6, hc6, sl6, hn6, hm6⟩, ⟨A7, n7, cc7, hc7, sl7, hn7, hm7⟩⟩, hcs⟩ := H.out.at_ hlt
        (obtain rfl : c6 = .slice A6 n6 cc6 := by simpa using hc6)
        (obtain rfl : c7 = .slice A7 n7 cc7 := by simpa using hc7)
        have hb0w : b0 < wr.heap.size := Nat.lt_of_lt_of_le hb0 WR.out.bel.size
        have q0 : wr.cell? ⟨b0, off + p * 8, none⟩ = some (.int .i64 o.kind) := (WR.out.bel.cell (p := ⟨b0, off + p * 8, none⟩) hb0).trans (hcs 0 _ rfl)
        have q1 : wr.cell? ⟨b0, off + p * 8 + 1, none⟩ = some (.int .i64 o.id) := (WR.out.bel.cell (p := ⟨b0, off + p * 8 + 1, none⟩) hb0).trans (hcs 1 _ rfl)
        have q2 : wr.cell? ⟨b0, off + p * 8 + 2, none⟩ = some (.int .i64 o.table) := (WR.out.bel.cell (p := ⟨b0, off + p * 8 + 2, none⟩) hb0).trans (hcs 2 _ rfl)
        have q3 : wr.cell? ⟨b0, off + p * 8 + 3, none⟩ = some (.int .i64 o.n) := (WR.out.bel.cell (p := ⟨b0, off + p * 8 + 3, none⟩) hb0).trans (hcs 3 _ rfl)
        have q4 : wr.cell? ⟨b0, off + p * 8 + 4, none⟩ = some (.int .i64 o.mark) := (WR.out.bel.cell (p := ⟨b0, off + p * 8 + 4, none⟩) hb0).trans (hcs 4 _ rfl)
        have q5 : wr.cell? ⟨b0, off + p * 8 + 5, none⟩ = some (.int .i64 o.after) := (WR.out.bel.cell (p := ⟨b0, off + p * 8 + 5, none⟩) hb0).trans (hcs 5 _ rfl)
        have q6 : wr.cell? ⟨b0, off + p * 8 + 6, none⟩ = some (.slice A6 n6 cc6) := (WR.out.bel.cell (p := ⟨b0, off + p * 8 + 6, none⟩) hb0).trans (hcs 6 _ rfl)
        have q7 : wr.cell? ⟨b0, off + p * 8 + 7, none⟩ = some (.slice A7 n7 cc7) := (WR.out.bel.cell (p := ⟨b0, off + p * 8 + 7, none⟩) hb0).trans (hcs 7 _ rfl)
        have SL6 := Lib.hid (sl6.below WR.out.bel)
        have SL7 := Lib.hid (sl7.below WR.out.bel)
        have HRW := Lib.hid sl6.wfs_row
        obtain ⟨ok, oi, ot, on, om, oa, orr, oc⟩ := o
        dsimp only at q0 q1 q2 q3 q4 q5 q6 q7 SL6 SL7 HRW
        clear hcs hc6 hc7 sl6 sl7 ho wk wi wt wn wm wa
        obtain ⟨a, haa⟩ : ∃ a, a = modOf oa 50 := ⟨_, rfl⟩
        have hra := modOf_range oa 50 (by omega)
        rw [← haa] at hra
        obtain ⟨ha0, ha1⟩ := hra
        have HA := Lib.hid haa
        clear haa
        obtain ⟨W1, hW1⟩ : ∃ W1, W1 = wr.alloc (.cells #[.int .i64 ok, .int .i64 oi, .int .i64 ot, .int .i64 on, .int .i64 om, .int .i64 oa, .slice A6 n6 cc6, .slice A7 n7 cc7] 64) := ⟨_, rfl⟩
        have B1 := Lib.hid (show Below wr.heap.size wr W1 by rw [hW1]; exact (Below.refl _ _).alloc (Nat.le_refl _) _)
        have KO := Lib.hid (show Blk W1 wr.heap.size [.int .i64 ok, .int .i64 oi, .int .i64 ot, .int .i64 on, .int .i64 om, .int .i64 oa, .slice A6 n6 cc6, .slice A7 n7 cc7] by rw [hW1]; exact Blk.new rfl rfl)
        have HW1 := Lib.hid hW1
        clear hW1
        obtain ⟨rr, hrr⟩ : ∃ rr, rr = rowsL a (orr.take k) := ⟨_, rfl⟩
        obtain ⟨chs, hch⟩ : ∃ chs, chs = playChgs 2 6 oc := ⟨_, rfl⟩
        have HRR := Lib.hid hrr
        have HCH := Lib.hid hch
        have hrl : rr.length ≤ k := by rw [hrr, rowsL_len, List.length_take]; omega
        have hcl : chs.length ≤ 6 := by rw [hch]; unfold playChgs; rw [List.length_map, List.length_take]; omega
        have HRI := Lib.hid (show rising a rr = true by rw [hrr]; exact rowsL_rising _ _ (by rw [List.length_take]; omega))
        have HLK := Lib.hid (show a ≤ lastKey rr a ∧ lastKey rr a ≤ 100 by
          have h := rowsL_last (orr.take k) a
          rw [← hrr, List.length_take] at h
          omega)
        have HRWF := Lib.hid (show ∀ r ∈ rr, r.wf by
          rw [hrr]
          exact rowsL_wf _ _ (fun r hr => HRW.out r (List.mem_of_mem_take hr)) ha0 (by rw [List.length_take]; omega))
        have SL6W := Lib.hid (show IsSl rowRep W1 (· < W1.heap.size) A6 n6 orr from (SL6.out.below (B1.out.mono WR.out.bel.size)).more (Nat.le_trans WR.out.bel.size B1.out.size))
        have SL7W := Lib.hid (show IsSl chgRep W1 (· < W1.heap.size) A7 n7 oc from (SL7.out.below (B1.out.mono WR.out.bel.size)).more (Nat.le_trans WR.out.bel.size B1.out.size))
        clear hrr hch
        have k5 := KO.out.1 5 _ rfl
        have k6 := KO.out.1 6 _ rfl
        have k7 := KO.out.1 7 _ rfl
        have hWs : wr.heap.size < W1.heap.size := KO.out.lt
        go_upto_region 13 with (first
          | (go_at_call 19; rw [← HW1.out]; (with_reducible refine (big_any oa 50 W1 (by omega) (by omega)).mono ?_); rintro e w' ⟨rfl, rfl⟩; rw [← HA.out])
          | (go_at_call 33; (with_reducible refine (rows26_any A6 n6 cc6 orr a k (k : Int) rfl W1 SL6W.out ⟨ha0, by omega⟩ (by omega) (by omega)).mono ?_); rintro e w2 ⟨v2, rfl, own2, bel2⟩; rw [← HRR.out] at own2; have OW2 := Lib.hid own2; have B2 := Lib.hid bel2; have k7 := (KO.out.after bel2).1 7 _ rfl; clear own2 bel2)
          | (go_at_call 18; (with_reducible refine (playChanges_any A7 n7 cc7 oc 2 (by omega) (by omega) 6 6 rfl (by omega) w2 ((SL7W.out.below B2.out).more B2.out.size)).mono ?_); rintro e w3 ⟨v3, rfl, own3, bel3⟩; rw [← HCH.out] at own3; have OW3 := Lib.hid own3; have B3 := Lib.hid bel3; clear own3 bel3)
          | fail)
        have B23 := Lib.hid (show Below wr.heap.size wr w3 from (B1.out.trans (B2.out.mono B1.out.size)).trans (B3.out.mono (Nat.le_trans B1.out.size B2.out.size)))
        have hs12 := B2.out.size
        have hs23 := B3.out.size
        have hs01 := B1.out.size
        obtain ⟨Ar, cr, rfl, _, hcr, slr⟩ := OW2.out.isSl (S' := fun k => wr.heap.size ≤ k ∧ k < w3.heap.size) (fun _ h => h.elim) (fun k h1 h2 => ⟨by omega, by omega⟩)
        obtain ⟨Ac, cc, rfl, _, hcc, slc⟩ := OW3.out.isSl (S' := fun k => wr.heap.size ≤ k ∧ k < w3.heap.size) (fun _ h => h.elim) (fun k h1 h2 => ⟨by omega, by omega⟩)
        obtain ⟨nr, hnr⟩ : ∃ nr, nr = rr.length := ⟨_, rfl⟩
        obtain ⟨nc, hnc⟩ : ∃ nc, nc = chs.length := ⟨_, rfl⟩
        have slr' := (OW2.out.below B3.out).slIn (S' := fun k => wr.heap.size ≤ k ∧ k < w3.heap.size) (fun k h1 h2 => ⟨by omega, h2⟩)
        obtain ⟨S, hSe⟩ : ∃ S : Nat → Prop, S = (fun k => k < g ∨ (wr.heap.size ≤ k ∧ k < w3.heap.size)) := ⟨_, rfl⟩
        have W3 := Lib.hid (show WS w w3 S g (win0 (k : Int)) by rw [hSe]; exact WR.out.step B23.out)
        have R3 := Lib.hid (show IsSl rowRep w3 S Ar nr rr by rw [hSe, hnr]; exact slr'.weak (fun k hk => .inr hk))
        have C3 := Lib.hid (show IsSl chgRep w3 S Ac nc chs by rw [hSe, hnc]; exact slc.weak (fun k hk => .inr hk))
        have HSG := Lib.hid (show ∀ k, k < g → S k by rw [hSe]; exact fun k hk => .inl hk)
        rw [← hnr, ← hnc]
        rw [← hnr] at hrl
        rw [← hnc] at hcl
        have HNR := Lib.hid hnr
        have HNC := Lib.hid hnc
        clear slr slr' slc hSe hnr hnc hs12 hs23 hs01 k5 k6 k7 hWs hcr hcc
        have HO := Lib.hid (show (win0 (k : Int)).openOk (2 * (p : Int) + 1) (1 + (p : Int)) 1 a = true ∧ (win0 (k : Int)).opened (2 * (p : Int) + 1) (1 + (p : Int)) 1 a = (⟨2 * (p : Int) + 1, a, 1 + (p : Int), 1, [], 0, false, (k : Int), 1⟩ : Win) by
          have h : (win0 (k : Int)).openOk (2 * (p : Int) + 1) (1 + (p : Int)) 1 a = true := decide_eq_true ⟨rfl, by omega, by omega, by omega, by omega, by omega, by omega, by omega, by omega⟩
          exact ⟨h, if_pos h⟩)
        have HO2 := Lib.hid (show (⟨2 * (p : Int) + 1, a, 1 + (p : Int), 1, [], 0, false, (k : Int), 1⟩ : Win).openOk (2 * (p : Int) + 1) 1 1 a = false ∧ (⟨2 * (p : Int) + 1, a, 1 + (p : Int), 1, [], 0, false, (k : Int), 1⟩ : Win).opened (2 * (p : Int) + 1) 1 1 a = (⟨2 * (p : Int) + 1, a, 1 + (p : Int), 1, [], 0, false, (k : Int), 1⟩ : Win) by
          have h : (⟨2 * (p : Int) + 1, a, 1 + (p : Int), 1, [], 0, false, (k : Int), 1⟩ : Win).openOk (2 * (p : Int) + 1) 1 1 a = false := decide_eq_false (fun h => by have h1 := h.1; dsimp only at h1; omega)
          exact ⟨h, by unfold Win.opened; rw [h]; rfl⟩)
        have HW1 := Lib.hid (show (⟨2 * (p : Int) + 1, a, 1 + (p : Int), 1, [], 0, false, (k : Int), 1⟩ : Win).waits 2 (2 * (p : Int) + 1) = true from decide_eq_true ⟨rfl, rfl, .inl rfl⟩)
        have HS0 := Lib.hid (show (⟨2 * (p : Int) + 1, a, 1 + (p : Int), 1, [], 0, false, (k : Int), 1⟩ : Win).saw chs = 0 ∧ (⟨2 * (p : Int) + 1, a, 1 + (p : Int), 1, [], 0, false, (k : Int), 1⟩ : Win).see chs = (⟨2 * (p : Int) + 1, a, 1 + (p : Int), 1, [], 0, false, (k : Int), 1⟩ : Win) from ⟨if_neg (by intro h1; dsimp only at h1; omega), if_neg (by intro h1; dsimp only at h1; omega)⟩)
        have HF := Lib.hid (show (⟨2 * (p : Int) + 1, a, 1 + (p : Int), 1, [], 0, false, (k : Int), 1⟩ : Win).fillOk rr = true ∧ (⟨2 * (p : Int) + 1, a, 1 + (p : Int), 1, [], 0, false, (k : Int), 1⟩ : Win).filled rr = (⟨2 * (p : Int) + 1, a, 1 + (p : Int), 1, rr, (lastKey rr a), decide ((rr.length : Int) < (k : Int)), (k : Int), 2⟩ : Win) by
          have h : (⟨2 * (p : Int) + 1, a, 1 + (p : Int), 1, [], 0, false, (k : Int), 1⟩ : Win).fillOk rr = true := by
            unfold Win.fillOk
            have h1 := HRI.out
            have h2 := HNR.out
            dsimp only
            rw [h1, decide_eq_true ⟨rfl, by omega⟩]
            rfl
          exact ⟨h, if_pos h⟩)
        have HW2 := Lib.hid (show (⟨2 * (p : Int) + 1, a, 1 + (p : Int), 1, rr, (lastKey rr a), decide ((rr.length : Int) < (k : Int)), (k : Int), 2⟩ : Win).waits 2 (2 * (p : Int) + 1) = true from decide_eq_true ⟨rfl, rfl, .inr rfl⟩)
        have HW3 := Lib.hid (show (⟨2 * (p : Int) + 1, a, 1 + (p : Int), 1, rr, (lastKey rr a), decide ((rr.length : Int) < (k : Int)), (k : Int), 3⟩ : Win).waits 2 (2 * (p : Int) + 1) = false from decide_eq_false (fun h => h.2.2.elim (fun h => by dsimp only at h; omega) (fun h => by dsimp only at h; omega)))
        have HXL := Lib.hid (show ([] : List Row).length ≤ 100000 ∧ nc ≤ 1000000 ∧ nr ≤ maxLen from ⟨Nat.zero_le _, by omega, by simp only [maxLen]; omega⟩)
        go_wp2_with (first
          | (go_at_call 21; (with_reducible refine (ws_open W3.out (2 * (p : Int) + 1) (1 + (p : Int)) 1 a).mono ?_); rintro e w4 ⟨rfl, ws, r⟩; rw [HO.out.1]; rw [HO.out.2] at ws; have W4 := Lib.hid ws; have R4 := Lib.hid (R3.out.call r); have C4 := Lib.hid (C3.out.call r); clear ws r)
          | (go_at_call 21; (with_reducible refine (ws_open W4.out (2 * (p : Int) + 1) 1 1 a).mono ?_); rintro e w5 ⟨rfl, ws, r⟩; rw [HO2.out.1]; rw [HO2.out.2] at ws; have W5 := Lib.hid ws; have R5 := Lib.hid (R4.out.call r); have C5 := Lib.hid (C4.out.call r); clear ws r)
          | (go_at_call 34; (with_reducible refine (ws_waits W5.out 0 2 (2 * (p : Int) + 1)).mono ?_); rintro e w6 ⟨rfl, ws, r⟩; rw [HW1.out]; have W6 := Lib.hid ws; have R6 := Lib.hid (R5.out.call r); have C6 := Lib.hid (C5.out.call r); clear ws r)
          | (go_at_call 27; (with_reducible refine (ws_see W6.out Ac nc cc chs C6.out HXL.out.1 HXL.out.2.1).mono ?_); rintro e w7 ⟨rfl, ws, r⟩; rw [HS0.out.1]; rw [HS0.out.2] at ws; have W7 := Lib.hid ws; have R7 := Lib.hid (R6.out.call r); have C7 := Lib.hid (C6.out.call r); clear ws r)
          | (go_at_call 24; (with_reducible refine (ws_fill W7.out Ar nr cr rr R7.out HK1.out.2 HXL.out.2.2).mono ?_); rintro e w8 ⟨rfl, ws, r⟩; rw [HF.out.1]; rw [HF.out.2] at ws; have W8 := Lib.hid ws; have R8 := Lib.hid (R7.out.call r); have C8 := Lib.hid (C7.out.call r); clear ws r)
          | (go_at_call 34; (with_reducible refine (ws_waits W8.out 0 2 (2 * (p : Int) + 1)).mono ?_); rintro e w9 ⟨rfl, ws, r⟩; rw [HW2.out]; have W9 := Lib.hid ws; have R9 := Lib.hid (R8.out.call r); have C9 := Lib.hid (C8.out.call r); clear ws r)
          | (go_at_call 26; (with_reducible refine (ws_low_no W9.out (2 * (p : Int) + 1) (fun h => by have h1 := h.1; dsimp only at h1; omega)).mono ?_); rintro e w10 ⟨rfl, ws, r⟩;  have W10 := Lib.hid ws; have R10 := Lib.hid (R9.out.call r); have C10 := Lib.hid (C9.out.call r); clear ws r)
          | (go_at_call 25; (with_reducible refine (ws_shut_ok W10.out rfl).mono ?_); rintro e w11 ⟨rfl, ws, r⟩;  have W11 := Lib.hid ws; have R11 := Lib.hid (R10.out.call r); have C11 := Lib.hid (C10.out.call r); clear ws r)
          | (go_at_call 34; (with_reducible refine (ws_waits W11.out 0 2 (2 * (p : Int) + 1)).mono ?_); rintro e w12 ⟨rfl, ws, r⟩; rw [HW3.out]; have W12 := Lib.hid ws; have R12 := Lib.hid (R11.out.call r); have C12 := Lib.hid (C11.out.call r); clear ws r)
          | (go_at_call 26; (with_reducible refine (ws_low_ok W13.out (2 * (p : Int) + 1) rfl rfl).mono ?_); rintro e w14 ⟨rfl, ws, r⟩;  have W14 := Lib.hid ws; have R14 := Lib.hid (R13.out.call r); have C14 := Lib.hid (C13.out.call r); clear ws r)
          | (go_at_call 26; (with_reducible refine (ws_low_no W12.out _ (fun h => by have h1 := h.2; dsimp only at h1; omega)).mono ?_); rintro e w13 ⟨rfl, ws, r⟩;  have W13 := Lib.hid ws; have R13 := Lib.hid (R12.out.call r); have C13 := Lib.hid (C12.out.call r); clear ws r)
          | fail)
        go_loopw [15] (fun i wr2 => ∃ q : Nat, i = .int .i64 q ∧ q ≤ nc ∧ WS w wr2 S g (⟨2 * (p : Int) + 1, a, 1 + (p : Int), 1, seeL 1 (chs.take q) rr, (lastKey rr a), decide ((rr.length : Int) < (k : Int)), (k : Int), 4⟩ : Win) ∧ IsSl rowRep wr2 S Ar nr rr ∧ IsSl chgRep wr2 S Ac nc chs) (fun i _ => nc - (intOf i).toNat)
        case atStart => exact ⟨0, rfl, Nat.zero_le _, W14.out, R14.out, C14.out⟩
        case round =>
          obtain ⟨wr2, rfl⟩ : ∃ x : World, x = wr := ⟨_, rfl⟩
          obtain ⟨q, rfl, hq, hws, hR, hC⟩ := hrel
          have WQ := Lib.hid hws
          have RQ := Lib.hid hR
          have CQ := Lib.hid hC
          clear hws hR hC
          by_cases hqlt : q < nc
          · have hdq : decide ((q : Int) < (nc : Int)) = true := decide_eq_true (by omega)
            have hqi : (q : Int) < (nc : Int) := by omega
            obtain ⟨bc, oc', ct, ck, cg, cv, rfl, hbS, hyc, hwfc, e0, e1, e2, e3⟩ := CQ.out.chgc hqlt (fun _ _ => rfl)
            have HSE := Lib.hid (show Win.see (⟨2 * (p : Int) + 1, a, 1 + (p : Int), 1, seeL 1 (chs.take q) rr, (lastKey rr a), decide ((rr.length : Int) < (k : Int)), (k : Int), 4⟩ : Win) [⟨ct, ck, cg, cv⟩] = (⟨2 * (p : Int) + 1, a, 1 + (p : Int), 1, seeL 1 (chs.take (q + 1)) rr, (lastKey rr a), decide ((rr.length : Int) < (k : Int)), (k : Int), 4⟩ : Win) by
              unfold Win.see
              rw [if_pos rfl]
              dsimp only
              rw [take_snoc hyc, seeL_snoc, seeL, seeL])
            have HNW : Hid (∀ w0 : World, IsSl chgRep (w0.alloc (.cells #[.int .i64 ct, .int .i64 ck, .bool cg, .string cv] 53)) (fun i => w0.heap.size ≤ i ∧ i < (w0.alloc (.cells #[.int .i64 ct, .int .i64 ck, .bool cg, .string cv] 53)).heap.size) (some ⟨w0.heap.size, 0, none⟩) 1 [⟨ct, ck, cg, cv⟩]) := Lib.hid (fun w0 => IsSl.newFlat (enc := Chg.cells) [⟨ct, ck, cg, cv⟩] (by intro x hx; simp at hx; subst hx; exact hwfc) rfl rfl ⟨Nat.le_refl _, by simp⟩)
            have HLE := Lib.hid (show (seeL 1 (chs.take q) rr).length ≤ 100000 by have h1 := seeL_len 1 (chs.take q) rr; have h2 := HNR.out; omega)
            have hbw : bc < wr2.heap.size := WQ.out.hS _ hbS
            clear hwfc hyc hbS
            go_wp2_with (first
              | (go_at_call 27; (with_reducible refine (ws_see_new WQ.out ((Below.refl _ _).alloc (Nat.le_refl _) _) _ 1 1 [⟨ct, ck, cg, cv⟩] (HNW.out wr2) HLE.out (by decide)).mono ?_); rintro e wq ⟨rfl, ws, r⟩; rw [HSE.out] at ws; have WQ2 := Lib.hid ws; have RQ2 := Lib.hid (RQ.out.call r); have CQ2 := Lib.hid (CQ.out.call r); clear ws r)
              | fail)
            go_roundw
            case rel => exact ⟨q + 1, by go_num, by omega, WQ2.out, RQ2.out, CQ2.out⟩
            case measure => simp [intOf]; omega
          · have hdq : decide ((q : Int) < (nc : Int)) = false := decide_eq_false (by omega)
            obtain rfl : nc = q := by omega
            have hta : chs.take nc = chs := List.take_of_length_le (by rw [← HNC.out]; exact Nat.le_refl _)
            rw [hta] at WQ
            clear hta hqlt
            obtain ⟨B0, hB0⟩ : ∃ B0, B0 = wr2.heap.size := ⟨_, rfl⟩
            have HB0 := Lib.hid hB0
            clear hB0
            go_wp2_with fail
            go_loopw [16, 17, 18] (fun v cu i wr3 => ∃ j : Nat, i = .int .i64 j ∧ j ≤ nr ∧ cu = .int .i64 (lastKey (rr.take j) a) ∧ Own oprRep wr3 B0 (fun _ => False) 51 v (wantL (2 * (p : Int) + 2) 1 chs (rr.take j)) ∧ Below B0 wr2 wr3) (fun _ _ i _ => nr - (intOf i).toNat)
            case atStart => exact ⟨0, rfl, Nat.zero_le _, by rw [List.take_zero, lastKey_nil], Own.nil _ _ _ (fun _ h => h.elim) _ none, Below.refl _ _⟩
            case round =>
              obtain ⟨wr3, rfl⟩ : ∃ x : World, x = wr := ⟨_, rfl⟩
              obtain ⟨j, rfl, hj, rfl, hown, hbel⟩ := hrel
              have OJ := Lib.hid hown
              have BJ := Lib.hid hbel
              clear hown hbel
              by_cases hjlt : j < nr
              · have hdj : decide ((j : Int) < (nr : Int)) = true := decide_eq_true (by omega)
                have hji : (j : Int) < (nr : Int) := by omega
                have hjr := (show ∀ p : Addr, S p.block → wr3.cell? p = wr2.cell? p from fun p hp => BJ.out.cell (by rw [HB0.out]; exact WQ.out.hS _ hp))
                obtain ⟨br, of', y, rfl, hbr, hy, hwy, r0, r1⟩ := RQ.out.row hjlt hjr
                have hbrw : br < B0 := by rw [HB0.out]; exact WQ.out.hS _ hbr
                have HTJ := Lib.hid (take_snoc hy)
                have HWY := Lib.hid (show (opOf (2 * (p : Int) + 2) 1 y).wf from ⟨⟨by dsimp only [opOf]; omega, by dsimp only [opOf]; omega⟩, ⟨by dsimp only [opOf]; omega, by dsimp only [opOf]; omega⟩, hwy.1, hwy.2⟩)
                obtain ⟨yk, yv⟩ := y
                dsimp only at r0 r1
                clear hbr hy hwy hjr
                go_wp2_with fail
                go_loopw [19, 158] (fun ht i wr4 => ∃ q : Nat, i = .int .i64 q ∧ q ≤ nc ∧ ht = .bool (hitB 1 (chs.take q) ⟨yk, yv⟩) ∧ Below wr3.heap.size wr3 wr4) (fun _ i _ => nc - (intOf i).toNat)
                case atStart => exact ⟨0, rfl, Nat.zero_le _, rfl, Below.refl _ _⟩
                case round =>
                  obtain ⟨wr4, rfl⟩ : ∃ x : World, x = wr := ⟨_, rfl⟩
                  obtain ⟨q, rfl, hq, rfl, hbel⟩ := hrel
                  have B4 := Lib.hid hbel
                  clear hbel
                  by_cases hqlt : q < nc
                  · have hdq : decide ((q : Int) < (nc : Int)) = true := decide_eq_true (by omega)
                    have hqi : (q : Int) < (nc : Int) := by omega
                    obtain ⟨bc, oc', ct, ck, cg, cv, rfl, hbS, hyc, -, e0, e1, e2, e3⟩ := CQ.out.chgc (w' := wr4) hqlt (fun p hp => (B4.out.cell (Nat.lt_of_lt_of_le (WQ.out.hS _ hp) (by rw [← HB0.out]; exact Nat.le_trans (Nat.le_of_eq HB0.out) BJ.out.size))).trans (BJ.out.cell (by rw [HB0.out]; exact WQ.out.hS _ hp)))
                    have hbw : bc < wr4.heap.size := Nat.lt_of_lt_of_le (Nat.lt_of_lt_of_le (WQ.out.hS _ hbS) BJ.out.size) B4.out.size
                    have s0 : wr4.cell? ⟨br, of' + j * 2, none⟩ = some (.int .i64 yk) := (B4.out.cell (Nat.lt_of_lt_of_le hbrw (Nat.le_trans (Nat.le_of_eq HB0.out) BJ.out.size))).trans r0
                    have HIT := Lib.hid (show hitB 1 (chs.take (q + 1)) ⟨yk, yv⟩ = (hitB 1 (chs.take q) ⟨yk, yv⟩ || decide (ct = 1 ∧ ck = yk)) by rw [take_snoc hyc, hitB_snoc])
                    have hbrw4 : br < wr4.heap.size := by have h1 := BJ.out.size; have h2 := B4.out.size; have h3 := HB0.out; omega
                    clear hyc hbS
                    go_wp2_with fail
                    obtain ⟨W1, hW1⟩ : ∃ W1, W1 = wr4.alloc (.cells #[.int .i64 ct, .int .i64 ck, .bool cg, .string cv] 53) := ⟨_, rfl⟩
                    have B41 := Lib.hid (show Below wr3.heap.size wr3 W1 by rw [hW1]; exact B4.out.alloc B4.out.size _)
                    have t0 : W1.cell? ⟨wr4.heap.size, 0, none⟩ = some (.int .i64 ct) := by rw [hW1]; exact World.cell?_alloc_at _ _ _ _ rfl
                    have t1 : W1.cell? ⟨wr4.heap.size, 1, none⟩ = some (.int .i64 ck) := by rw [hW1]; exact World.cell?_alloc_at _ _ _ _ rfl
                    have t2 : W1.cell? ⟨br, of' + j * 2, none⟩ = some (.int .i64 yk) := by rw [hW1]; exact (((Below.refl _ _).alloc (Nat.le_refl _) _).cell (p := ⟨br, _, none⟩) hbrw4).trans s0
                    rw [← hW1]
                    clear hW1
                    obtain ⟨ht, hht⟩ : ∃ ht, ht = hitB 1 (chs.take q) ⟨yk, yv⟩ := ⟨_, rfl⟩
                    rw [← hht] at HIT ⊢
                    clear hht s0 e0 e1 e2 e3 B4
                    cases ht
                    · by_cases g1 : ct = 1
                      · have d1 : (ct == 1) = true := by simpa using g1
                        have HX := Lib.hid (show hitB 1 (chs.take (q + 1)) ⟨yk, yv⟩ = (ck == yk) by rw [HIT.out, Bool.false_or, Bool.eq_iff_iff]; simp [g1])
                        clear g1
                        go_quiet (fail)
                        go_wp2_with fail
                        go_roundw
                        case rel => exact ⟨q + 1, by go_num, by omega, by rw [HX.out], below_drewN B41.out _⟩
                        case measure => simp [intOf]; omega
                      · have d1 : (ct == 1) = false := by simpa using g1
                        have HX := Lib.hid (show hitB 1 (chs.take (q + 1)) ⟨yk, yv⟩ = false by rw [HIT.out, Bool.false_or]; exact decide_eq_false (fun h => g1 h.1))
                        clear g1
                        go_quiet (fail)
                        go_wp2_with fail
                        go_roundw
                        case rel => exact ⟨q + 1, by go_num, by omega, by rw [HX.out], below_drewN B41.out _⟩
                        case measure => simp [intOf]; omega
                    · have HX := Lib.hid (show hitB 1 (chs.take (q + 1)) ⟨yk, yv⟩ = true by rw [HIT.out, Bool.true_or])
                      go_quiet (fail)
                      go_wp2_with fail
                      go_roundw
                      case rel => exact ⟨q + 1, by go_num, by omega, by rw [HX.out], below_drewN B41.out _⟩
                      case measure => simp [intOf]; omega
                  · have hdq : decide ((q : Int) < (nc : Int)) = false := decide_eq_false (by omega)
                    obtain rfl : nc = q := by omega
                    have hta : chs.take nc = chs := List.take_of_length_le (by rw [← HNC.out]; exact Nat.le_refl _)
                    rw [hta]
                    clear hta hqlt
                    have s0 : wr4.cell? ⟨br, of' + j * 2, none⟩ = some (.int .i64 yk) := (B4.out.cell (Nat.lt_of_lt_of_le hbrw (Nat.le_trans (Nat.le_of_eq HB0.out) BJ.out.size))).trans r0
                    have s1 : wr4.cell? ⟨br, of' + j * 2 + 1, none⟩ = some (.string yv) := (B4.out.cell (Nat.lt_of_lt_of_le hbrw (Nat.le_trans (Nat.le_of_eq HB0.out) BJ.out.size))).trans r1
                    have B24 := Lib.hid (show Below B0 wr2 wr4 from BJ.out.trans (B4.out.mono (Nat.le_trans (Nat.le_of_eq HB0.out) BJ.out.size)))
                    have OJ4 := Lib.hid (OJ.out.below B4.out)
                    have hbr4 : br < wr4.heap.size := Nat.lt_of_lt_of_le hbrw (Nat.le_trans (Nat.le_of_eq HB0.out) B24.out.size)
                    have HVR := Lib.hid (show ∀ k, rowOf u16 = some k → B0 ≤ k from fun k hk => OJ.out.row_ge hk)
                    obtain ⟨ht, hht⟩ : ∃ ht, ht = hitB 1 chs ⟨yk, yv⟩ := ⟨_, rfl⟩
                    have HTT := Lib.hid hht
                    rw [← hht]
                    clear hht
                    cases ht
                    · have HWL := Lib.hid (show (wantL (2 * (p : Int) + 2) 1 chs (rr.take j)).length ≤ 100 by
                        unfold wantL
                        rw [List.length_map]
                        have h1 := List.length_filter_le (fun x => !hitB 1 chs x) (rr.take j)
                        rw [List.length_take] at h1
                        omega)
                      have hA : ∀ o : Obj, (wr4.alloc o).cell? ⟨br, of' + j * 2, none⟩ = some (.int .i64 yk) ∧ (wr4.alloc o).cell? ⟨br, of' + j * 2 + 1, none⟩ = some (.string yv) := fun o => ⟨(((Below.refl _ _).alloc (Nat.le_refl _) _).cell (p := ⟨br, _, none⟩) hbr4).trans s0, (((Below.refl _ _).alloc (Nat.le_refl _) _).cell (p := ⟨br, _, none⟩) hbr4).trans s1⟩
                      obtain ⟨acc, hacc⟩ : ∃ acc, acc = wantL (2 * (p : Int) + 2) 1 chs (rr.take j) := ⟨_, rfl⟩
                      have HACC := Lib.hid hacc
                      rw [← hacc] at OJ4 HWL
                      clear hacc
                      have hle := HWL.out
                      have hB4 : B0 ≤ wr4.heap.size := Nat.le_trans (Nat.le_of_eq HB0.out) B24.out.size
                      have HWX := Lib.hid (show (⟨2 * (p : Int) + 2, 1, yk, false, yv⟩ : Opr).wf from HWY.out)
                      go_wp2_with fail
                      refine wp_region_held_drew (S := fun w' => w'.cell? ⟨br, of' + j * 2, none⟩ = some (.int .i64 yk) ∧ w'.cell? ⟨br, of' + j * 2 + 1, none⟩ = some (.string yv)) (by kernel_rfl) (⟨s0, s1⟩) (fun hHeld => ?_)
                      (refine wpAnyH_take (i := 0) (v := ?_) rfl (by kernel_rfl) (by kernel_rfl) (by kernel_rfl) (fun _ _ _ h => h) (Or.inl ⟨by rfl, ?_⟩) hHeld ?_; rotate_left 1; focus (intro w hSw; (try dsimp only at hSw); go_simp; try with_reducible rfl)); (try simp only [Act.put, List.setIfInBounds_toArray, List.set_cons_zero, List.set_cons_succ])
                      (refine wpAnyH_take (i := 1) (v := ?_) rfl (by kernel_rfl) (by kernel_rfl) (by kernel_rfl) (fun _ _ _ h => h) (Or.inl ⟨by rfl, ?_⟩) hHeld ?_; rotate_left 1; focus (intro w hSw; (try dsimp only at hSw); go_simp; try with_reducible rfl)); (try simp only [Act.put, List.setIfInBounds_toArray, List.set_cons_zero, List.set_cons_succ])
                      (refine wpAnyH_take (i := 2) (v := ?_) rfl (by kernel_rfl) (by kernel_rfl) (by kernel_rfl) (fun _ _ _ h => h) (Or.inl ⟨by rfl, ?_⟩) hHeld ?_; rotate_left 1; focus (intro w hSw; (try dsimp only at hSw); go_simp; try with_reducible rfl)); (try simp only [Act.put, List.setIfInBounds_toArray, List.set_cons_zero, List.set_cons_succ])
                      (refine wpAnyH_take (i := 3) (v := ?_) rfl (by kernel_rfl) (by kernel_rfl) (by kernel_rfl) (fun _ _ _ h => h) (Or.inl ⟨by rfl, ?_⟩) hHeld ?_; rotate_left 1; focus (intro w hSw; (try dsimp only at hSw); go_simp; try with_reducible rfl)); (try simp only [Act.put, List.setIfInBounds_toArray, List.set_cons_zero, List.set_cons_succ])
                      (refine wpAnyH_take (i := 4) (v := ?_) rfl (by kernel_rfl) (by kernel_rfl) (by kernel_rfl) (fun _ _ _ h => h) (Or.inl ⟨by rfl, ?_⟩) hHeld ?_; rotate_left 1; focus (intro w hSw; (try dsimp only at hSw); go_simp; try with_reducible rfl)); (try simp only [Act.put, List.setIfInBounds_toArray, List.set_cons_zero, List.set_cons_succ])
                      (refine wpAnyH_take (i := 5) (v := ?_) rfl (by kernel_rfl) (by kernel_rfl) (by kernel_rfl) (fun _ _ _ h => h) (Or.inl ⟨by rfl, ?_⟩) hHeld ?_; rotate_left 1; focus (intro w hSw; (try dsimp only at hSw); go_simp; try with_reducible rfl)); (try simp only [Act.put, List.setIfInBounds_toArray, List.set_cons_zero, List.set_cons_succ])
                      (refine wpAnyH_take (i := 6) (v := ?_) rfl (by kernel_rfl) (by kernel_rfl) (by kernel_rfl) (fun _ _ _ h => h) (Or.inl ⟨by rfl, ?_⟩) hHeld ?_; rotate_left 1; focus (intro w hSw; (try dsimp only at hSw); go_simp; try with_reducible rfl)); (try simp only [Act.put, List.setIfInBounds_toArray, List.set_cons_zero, List.set_cons_succ])
                      (refine wpAnyH_take (i := 7) (v := ?_) rfl (by kernel_rfl) (by kernel_rfl) (by kernel_rfl) (fun _ _ _ h => h) (Or.inl ⟨by rfl, ?_⟩) hHeld ?_; rotate_left 1; focus (intro w hSw; (try dsimp only at hSw); go_simp; try with_reducible rfl)); (try simp only [Act.put, List.setIfInBounds_toArray, List.set_cons_zero, List.set_cons_succ])
                      (refine wpAnyH_take (i := 8) (v := ?_) rfl (by kernel_rfl) (by kernel_rfl) (by kernel_rfl) (fun _ _ _ h => h) (Or.inl ⟨by rfl, ?_⟩) hHeld ?_; rotate_left 1; focus (intro w hSw; (try dsimp only at hSw); go_simp; try with_reducible rfl)); (try simp only [Act.put, List.setIfInBounds_toArray, List.set_cons_zero, List.set_cons_succ])
                      (refine wpAnyH_take (i := 9) (v := ?_) rfl (by kernel_rfl) (by kernel_rfl) (by kernel_rfl) (fun _ _ _ h => h) (Or.inl ⟨by rfl, ?_⟩) hHeld ?_; rotate_left 1; focus (intro w hSw; (try dsimp only at hSw); go_simp; try with_reducible rfl)); (try simp only [Act.put, List.setIfInBounds_toArray, List.set_cons_zero, List.set_cons_succ])
                      (refine wpAnyH_take (i := 10) (v := ?_) rfl (by kernel_rfl) (by kernel_rfl) (by kernel_rfl) (fun _ _ _ h => h) (Or.inl ⟨by rfl, ?_⟩) hHeld ?_; rotate_left 1; focus (intro w hSw; (try dsimp only at hSw); go_simp; try with_reducible rfl)); (try simp only [Act.put, List.setIfInBounds_toArray, List.set_cons_zero, List.set_cons_succ])
                      (refine wpAnyH_take (i := 11) (v := ?_) rfl (by kernel_rfl) (by kernel_rfl) (by kernel_rfl) (fun _ _ _ h => h) (Or.inl ⟨by rfl, ?_⟩) hHeld ?_; rotate_left 1; focus (intro w hSw; (try dsimp only at hSw); go_simp; try with_reducible rfl)); (try simp only [Act.put, List.setIfInBounds_toArray, List.set_cons_zero, List.set_cons_succ])
                      (refine wpAnyH_take (i := 12) (v := ?_) rfl (by kernel_rfl) (by kernel_rfl) (by kernel_rfl) (fun _ _ _ h => h) (Or.inl ⟨by rfl, ?_⟩) hHeld ?_; rotate_left 1; focus (intro w hSw; (try dsimp only at hSw); go_simp; try with_reducible rfl)); (try simp only [Act.put, List.setIfInBounds_toArray, List.set_cons_zero, List.set_cons_succ])
                      refine wpAnyH_ready (rs := [13]) (by kernel_rfl) (by simp) ?_
                      refine AllReadyH.cons rfl (fun K hK => ?_) AllReadyH.nil
                      go_simp
                      refine hK.out _ _ (hA _) (fun hHeld2 => ?_)
                      clear hK K hHeld; have hHeld := hHeld2; clear hHeld2; (try simp only [Act.put, List.setIfInBounds_toArray, List.set_cons_zero, List.set_cons_succ])
                      refine wpAnyH_ready (rs := [14]) (by kernel_rfl) (by simp) ?_
                      refine AllReadyH.cons rfl (fun K hK => ?_) AllReadyH.nil
                      refine step_append_Own (w := wr4.drew.alloc (.cells #[.int .i64 (2 * (p : Int) + 2), .int .i64 1, .int .i64 yk, .bool false, .string yv] 51)) rfl (.tmp 181) (.tmp 194) 41 rfl B0 51 i0 _ 48 Try.underlying41 hi hz0 hz1 hz2 rfl (R := oprRep) (S := fun _ => False) (l := acc) (l' := [opOf (2 * (p : Int) + 2) 1 ⟨yk, yv⟩]) u16 rfl (OJ4.out.drew.alloc _) _ 1 1 rfl (Src.new (R := oprRep) (w := wr4.drew) (e := 51) (S := fun _ => False) (a := opOf (2 * (p : Int) + 2) 1 ⟨yk, yv⟩) (cs := (opOf (2 * (p : Int) + 2) 1 ⟨yk, yv⟩).cells) ⟨rfl, HWX.out⟩) (by simp only [maxLen]; omega) (by omega) (by omega) (by show B0 ≤ (wr4.alloc _).heap.size; simp; omega) ?_
                      intro v9 w9 own9 gr9 at9
                      have OW9 := Lib.hid own9
                      have B9 := Lib.hid (show Below B0 wr2 w9 from ((below_drewN B24.out 1).alloc (by show B0 ≤ wr4.heap.size; exact hB4) _).grown gr9 (by show B0 ≤ (wr4.alloc _).heap.size; simp; omega) (fun k hk => HVR.out k hk))
                      have hH9 : w9.cell? ⟨br, of' + j * 2, none⟩ = some (.int .i64 yk) ∧ w9.cell? ⟨br, of' + j * 2 + 1, none⟩ = some (.string yv) := ⟨(B9.out.cell (p := ⟨br, _, none⟩) hbrw).trans ((B24.out.cell (p := ⟨br, _, none⟩) hbrw).symm.trans s0), (B9.out.cell (p := ⟨br, _, none⟩) hbrw).trans ((B24.out.cell (p := ⟨br, _, none⟩) hbrw).symm.trans s1)⟩
                      obtain ⟨h90, h91⟩ := hH9
                      clear own9 gr9 at9
                      refine hK.out _ _ (⟨h90, h91⟩) (fun hHeld2 => ?_)
                      clear hK K hHeld; have hHeld := hHeld2; clear hHeld2; (try simp only [Act.put, List.setIfInBounds_toArray, List.set_cons_zero, List.set_cons_succ])
                      (refine wpAnyH_take (i := 15) (v := ?_) rfl (by kernel_rfl) (by kernel_rfl) (by kernel_rfl) (fun _ _ _ h => h) (Or.inl ⟨by rfl, ?_⟩) hHeld ?_; rotate_left 1; focus (intro w hSw; (try dsimp only at hSw); go_simp; try with_reducible rfl)); (try simp only [Act.put, List.setIfInBounds_toArray, List.set_cons_zero, List.set_cons_succ])
                      refine wpAnyH_done (by kernel_rfl) ?_ _
                      go_wp2_with fail
                      go_roundw
                      case rel => exact ⟨j + 1, by go_num, by omega, by rw [HTJ.out, lastKey_snoc], by rw [HTJ.out, wantL_snoc, if_neg (by rw [← HTT.out]; exact Bool.false_ne_true), ← HACC.out]; exact OW9.out, B9.out⟩
                      case measure => simp [intOf]; omega
                    · go_wp2_with fail
                      go_roundw
                      case rel => exact ⟨j + 1, by go_num, by omega, by rw [HTJ.out, lastKey_snoc], by rw [HTJ.out, wantL_snoc, if_pos HTT.out.symm]; exact OJ4.out, B24.out⟩
                      case measure => simp [intOf]; omega
              · have hdj : decide ((j : Int) < (nr : Int)) = false := decide_eq_false (by omega)
                obtain rfl : nr = j := by omega
                have htj : rr.take nr = rr := List.take_of_length_le (by rw [← HNR.out]; exact Nat.le_refl _)
                rw [htj] at OJ ⊢
                clear htj hjlt
                have BJ2 : Below wr2.heap.size wr2 wr3 := by rw [← HB0.out]; exact BJ.out
                obtain ⟨Aw, cw, rfl, _, hcw, slw⟩ := OJ.out.isSl (S' := fun k => B0 ≤ k ∧ k < wr3.heap.size) (fun _ h => h.elim) (fun k h1 h2 => ⟨h1, h2⟩)
                obtain ⟨nw, hnw⟩ : ∃ nw, nw = (wantL (2 * (p : Int) + 2) 1 chs rr).length := ⟨_, rfl⟩
                rw [← hnw] at slw ⊢
                obtain ⟨S2, hS2⟩ : ∃ S2 : Nat → Prop, S2 = (fun k => S k ∨ (wr2.heap.size ≤ k ∧ k < wr3.heap.size)) := ⟨_, rfl⟩
                have W15 := Lib.hid (show WS w wr3 S2 g (⟨2 * (p : Int) + 1, a, 1 + (p : Int), 1, seeL 1 (chs) rr, (lastKey rr a), decide ((rr.length : Int) < (k : Int)), (k : Int), 4⟩ : Win) by rw [hS2]; exact WQ.out.step BJ2)
                have SLW := Lib.hid (show IsSl oprRep wr3 S2 Aw nw (wantL (2 * (p : Int) + 2) 1 chs rr) by rw [hS2]; exact slw.weak (fun k hk => .inr (by rw [HB0.out] at hk; exact hk)))
                have HS2 := Lib.hid (show ∀ k, k < g → S2 k by rw [hS2]; exact fun k hk => .inl (HSG.out k hk))
                have hwn : nw ≤ 100 := by
                  rw [hnw]
                  unfold wantL
                  rw [List.length_map]
                  have h1 := List.length_filter_le (fun x => !hitB 1 chs x) rr
                  have h2 := HNR.out
                  omega
                clear slw hS2 hnw hcw BJ2
                have HSL := Lib.hid (show (seeL 1 chs rr).length ≤ 100000 by have h1 := seeL_len 1 chs rr; have h2 := HNR.out; omega)
                have HI64 := Lib.hid (show I64 (1 + (p : Int)) ∧ I64 1 ∧ I64 (lastKey rr a) from ⟨⟨by omega, by omega⟩, ⟨by omega, by omega⟩, ⟨by have h := HLK.out; omega, by have h := HLK.out; omega⟩⟩)
                have HH := Lib.hid (show (⟨2 * (p : Int) + 1, a, 1 + (p : Int), 1, seeL 1 (chs) rr, (lastKey rr a), decide ((rr.length : Int) < (k : Int)), (k : Int), 4⟩ : Win).highOk (2 * (p : Int) + 1) (2 * (p : Int) + 2) = true ∧ (⟨2 * (p : Int) + 1, a, 1 + (p : Int), 1, seeL 1 (chs) rr, (lastKey rr a), decide ((rr.length : Int) < (k : Int)), (k : Int), 4⟩ : Win).tell (2 * (p : Int) + 1) (2 * (p : Int) + 2) = ⟨2 * (p : Int) + 2, wantL (2 * (p : Int) + 2) 1 chs rr, [⟨2, 1 + (p : Int), 0, 0, 0, lastKey rr a, decide ((nr : Int) < (k : Int))⟩]⟩ ∧ (⟨2 * (p : Int) + 1, a, 1 + (p : Int), 1, seeL 1 (chs) rr, (lastKey rr a), decide ((rr.length : Int) < (k : Int)), (k : Int), 4⟩ : Win).told (2 * (p : Int) + 1) (2 * (p : Int) + 2) = win0 (k : Int) by
                  have h : (⟨2 * (p : Int) + 1, a, 1 + (p : Int), 1, seeL 1 (chs) rr, (lastKey rr a), decide ((rr.length : Int) < (k : Int)), (k : Int), 4⟩ : Win).highOk (2 * (p : Int) + 1) (2 * (p : Int) + 2) = true := decide_eq_true ⟨rfl, rfl, by omega, by omega⟩
                  refine ⟨h, ?_, if_pos h⟩
                  unfold Win.tell
                  rw [if_pos h]
                  dsimp only
                  rw [seeL_filter, HNR.out]
                  rfl)
                go_upto_region 34 with (first
                  | (go_at_call 28; (with_reducible refine (ws_high W15.out (2 * (p : Int) + 1) (2 * (p : Int) + 2) HSL.out HI64.out.1 HI64.out.2.1 HI64.out.2.2).mono ?_); rintro e w16 ⟨Ao, no, co, An, nn, cn, rfl, s1, s2, ws, r⟩; rw [HH.out.2.1] at s1 s2; rw [HH.out.2.2] at ws; rw [HH.out.1, HH.out.2.1]; have W16 := Lib.hid ws; have SLW16 := Lib.hid (SLW.out.call r); have SO := Lib.hid s1; have SN := Lib.hid s2; clear s1 s2 ws r)
                  | fail)
                obtain ⟨W17, hW17⟩ : ∃ W17, W17 = w16.alloc (.cells #[.int .i64 (2 * (p : Int) + 2), .slice Ao no co, .slice An nn cn] 44) := ⟨_, rfl⟩
                have B17 : Below w16.heap.size w16 W17 := by rw [hW17]; exact (Below.refl _ _).alloc (Nat.le_refl _) _
                have K17 := Lib.hid (show Blk W17 w16.heap.size [.int .i64 (2 * (p : Int) + 2), .slice Ao no co, .slice An nn cn] by rw [hW17]; exact Blk.new rfl rfl)
                have W17S := Lib.hid (W16.out.below B17)
                have SO17 := Lib.hid (show IsSl oprRep W17 (· < W17.heap.size) Ao no (wantL (2 * (p : Int) + 2) 1 chs rr) from (SO.out.keep (fun p hp => B17.cell hp.2)).weak (fun k hk => Nat.lt_of_lt_of_le hk.2 B17.size))
                have SW17 := Lib.hid (show IsSl oprRep W17 (· < W17.heap.size) Aw nw (wantL (2 * (p : Int) + 2) 1 chs rr) from (SLW16.out.keep (fun p hp => B17.cell (W16.out.hS _ hp))).weak (fun k hk => Nat.lt_of_lt_of_le (W16.out.hS _ hk) B17.size))
                obtain rfl : nn = 1 := SN.out.len
                obtain ⟨bn, fn, y, cs, rfl, hbn, hy, ⟨rfl, hwn2⟩, hcs⟩ := SN.out.at_ (k := 0) (by omega)
                obtain rfl := (Option.some.inj hy).symm
                have hbnl : bn < w16.heap.size := hbn.2
                have hcs2 : ∀ (j : Nat) (u : Value), (Note.cells ⟨2, 1 + (p : Int), 0, 0, 0, lastKey rr a, decide ((nr : Int) < (k : Int))⟩)[j]? = some u → W17.cell? ⟨bn, fn + 0 * 7 + j, none⟩ = some u := fun j u hu => (B17.cell (p := ⟨bn, _, none⟩) hbnl).trans (hcs j u hu)
                have HCS := Lib.hid hcs2
                have hbn17 : bn < W17.heap.size := Nat.lt_of_lt_of_le hbnl B17.size
                have HBN := Lib.hid hbn17
                have hno : no ≤ 281474976710656 := by have h1 := SO17.out.len; have h2 := SW17.out.len; omega
                have hsz17 : w16.heap.size < W17.heap.size := K17.out.lt
                rw [← hW17]
                clear hW17 B17 hy hcs hcs2 hbn hbnl hwn2 hbn17
                obtain ⟨k0, k1, k2, kz⟩ := K17.out.c3
                go_wp2_with (first
                  | (go_at_call 35; (with_reducible refine (plain_opr Ao Aw no nw co cw (wantL (2 * (p : Int) + 2) 1 chs rr) W17 SO17.out SW17.out hno).mono ?_); rintro e w18 ⟨rfl, bel⟩; have W18 := Lib.hid (W17S.out.below bel); have K18 := Lib.hid (K17.out.after bel); obtain ⟨k0, k1, k2, kz⟩ := K18.out.c3; have HC18 := Lib.hid (show ∀ (j : Nat) (u : Value), (Note.cells ⟨2, 1 + (p : Int), 0, 0, 0, lastKey rr a, decide ((nr : Int) < (k : Int))⟩)[j]? = some u → w18.cell? ⟨bn, fn + 0 * 7 + j, none⟩ = some u from fun j u hu => (bel.cell (p := ⟨bn, _, none⟩) HBN.out).trans (HCS.out j u hu)); have n0 := HC18.out 0 _ rfl; have n1 := HC18.out 1 _ rfl; have n2 := HC18.out 2 _ rfl; have n3 := HC18.out 3 _ rfl; have n4 := HC18.out 4 _ rfl; have n5 := HC18.out 5 _ rfl; have n6 := HC18.out 6 _ rfl; clear bel; simp only [Nat.zero_mul, Nat.add_zero] at n0 n1 n2 n3 n4 n5 n6)
                  | (go_at_call 31; (with_reducible refine (ws_state W18.out).mono ?_); rintro e w' ⟨rfl, rfl⟩)
                  | (go_at_call 32; (with_reducible refine (ws_rows W18.out (Nat.zero_le _)).mono ?_); rintro e w19 ⟨A9, c9, rfl, ws, r, -⟩; have W19 := Lib.hid ws; clear ws r)
                  | fail)
                go_roundw
                case rel => exact ⟨p + 1, by go_num, by omega, by omega, W19.out.less HS2.out (fun k hk => by rw [HG.out]; exact hk)⟩
                case measure => simp [intOf]; omega
      · have hd2 : decide ((p : Int) < 20) = false := decide_eq_false (by omega)
        go_wp2_with (first
          | (go_at_call 30; (with_reducible refine (awake26_any _).mono ?_); rintro e w2 ⟨rfl, bel2⟩; have BE := Lib.hid (WR.out.bel.trans (bel2.mono WR.out.bel.size)); clear bel2)
          | fail)
        go_ret
        exact ⟨rfl, BE.out⟩
    · have hd : decide ((p : Int) < (nA : Int)) = false := decide_eq_false (by omega)
      go_wp2_with (first
        | (go_at_call 30; (with_reducible refine (awake26_any _).mono ?_); rintro e w2 ⟨rfl, bel2⟩; have BE := Lib.hid (WR.out.bel.trans (bel2.mono WR.out.bel.size)); clear bel2)
        | fail)
      go_ret
      exact ⟨rfl, BE.out⟩
end Go.Proofs.Ytojjeogpggielaa
