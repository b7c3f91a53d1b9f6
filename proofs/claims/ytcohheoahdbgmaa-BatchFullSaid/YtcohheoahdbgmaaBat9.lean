/- Several items as one: the plain law; contract: batch.Join. -/
import Derived.Test.YtcohheoahdbgmaaBat7
import Derived.Deep.Cut
set_option linter.unusedVariables false
set_option linter.unusedSimpArgs false
namespace Go.Proofs.Ytcohheoahdbgmaa
open Go.RowKit

def opsOf (l : List Item) : List Opr := l.flatMap (·.ops)
def notesOf (l : List Item) : List Note := l.flatMap (·.notes)
def lsnL (l : List Item) : Int := l.foldl (fun _ x => x.lsn) 0
def riseP (l : List Item) : Bool × Int := l.foldl (fun p x => (p.1 && decide (p.2 < x.lsn), x.lsn)) (true, 0)
def riseL (l : List Item) : Bool := (riseP l).1
def joinE (l : List Item) : Int := if l.all mayItem = true ∧ l.length ≠ 0 ∧ (opsOf l).length ≤ 4096 ∧ (notesOf l).length ≤ 256 then (if riseL l = true then 0 else 10) else 1
def joinV (l : List Item) : Item := if joinE l = 0 then ⟨lsnL l, opsOf l, notesOf l⟩ else item0

theorem riseP_lsn (l : List Item) : (riseP l).2 = lsnL l := by
  have h : ∀ (l : List Item) (a : Bool) (k : Int), (l.foldl (fun p x => (p.1 && decide (p.2 < x.lsn), x.lsn)) (a, k)).2 = l.foldl (fun _ x => x.lsn) k := by
    intro l
    induction l with
    | nil => intro a k; rfl
    | cons x t ih => intro a k; exact ih _ _
  exact h l true 0
theorem riseL_snoc (l : List Item) (x : Item) : riseL (l ++ [x]) = (riseL l && decide (lsnL l < x.lsn)) := by
  unfold riseL
  rw [← riseP_lsn]
  unfold riseP
  rw [List.foldl_append]
  rfl
theorem lsnL_snoc (l : List Item) (x : Item) : lsnL (l ++ [x]) = x.lsn := by unfold lsnL; rw [List.foldl_append]; rfl
theorem opsOf_snoc (l : List Item) (x : Item) : opsOf (l ++ [x]) = opsOf l ++ x.ops := by unfold opsOf; simp
theorem notesOf_snoc (l : List Item) (x : Item) : notesOf (l ++ [x]) = notesOf l ++ x.notes := by unfold notesOf; simp
theorem ofs_len : ∀ (l : List Item), l.all mayItem = true → (opsOf l).length ≤ 4096 * l.length ∧ (notesOf l).length ≤ 256 * l.length
  | [], _ => ⟨Nat.le_refl _, Nat.le_refl _⟩
  | x :: t, h => by
    rw [List.all_cons, Bool.and_eq_true] at h
    have h1 := mayItem_parts h.1
    have h2 := ofs_len t h.2
    unfold opsOf notesOf at *
    rw [List.flatMap_cons, List.flatMap_cons, List.length_append, List.length_append, List.length_cons]
    omega
theorem joinE_may {l : List Item} (h : l.all mayItem = false) : joinE l = 1 ∧ joinV l = item0 := by
  have h1 : joinE l = 1 := if_neg (fun e => by rw [h] at e; cases e.1)
  exact ⟨h1, if_neg (by rw [h1]; decide)⟩
theorem joinE_size {l : List Item} (h : l.length = 0 ∨ 4096 < (opsOf l).length ∨ 256 < (notesOf l).length) : joinE l = 1 ∧ joinV l = item0 := by
  have h1 : joinE l = 1 := if_neg (by rintro ⟨_, e1, e2, e3⟩; omega)
  exact ⟨h1, if_neg (by rw [h1]; decide)⟩
theorem joinE_rise {l : List Item} (h : l.all mayItem = true) (h0 : l.length ≠ 0) (h1 : (opsOf l).length ≤ 4096) (h2 : (notesOf l).length ≤ 256) (hr : riseL l = false) : joinE l = 10 ∧ joinV l = item0 := by
  have e : joinE l = 10 := by unfold joinE; rw [if_pos ⟨h, h0, h1, h2⟩, if_neg (by rw [hr]; decide)]
  exact ⟨e, if_neg (by rw [e]; decide)⟩
theorem joinE_ok {l : List Item} (h : l.all mayItem = true) (h0 : l.length ≠ 0) (h1 : (opsOf l).length ≤ 4096) (h2 : (notesOf l).length ≤ 256) (hr : riseL l = true) : joinE l = 0 ∧ joinV l = ⟨lsnL l, opsOf l, notesOf l⟩ := by
  have e : joinE l = 0 := by unfold joinE; rw [if_pos ⟨h, h0, h1, h2⟩, if_pos hr]
  exact ⟨e, if_pos e⟩

/-- Two slices whose rows are not one. -/
def Apart (v v' : Value) : Prop := ∀ q, rowOf v = some q → rowOf v' = some q → False
theorem Apart.app {w : World} {v v' u : Value} (h : Apart v u) (hu : ∀ q, rowOf u = some q → q < w.heap.size) (at_ : v' = v ∨ rowOf v' = rowOf v ∨ rowOf v' = some w.heap.size) : Apart v' u := by
  intro q h1 h2
  rcases at_ with rfl | e | e
  · exact h q h1 h2
  · exact h q (by rw [← e]; exact h1) h2
  · rw [e] at h1
    injection h1 with h1
    have := hu q h2
    omega
theorem Apart.symm {v u : Value} (h : Apart v u) : Apart u v := fun q h1 h2 => h q h2 h1

theorem IsSl.item {w w' : World} {B n k : Nat} {A : Option Addr} {l : List Item} (h : IsSl itemRep w (· < B) A n l) (hk : k < n) (hw : ∀ p : Addr, p.block < B → w'.cell? p = w.cell? p) :
    ∃ b off x A1 n1 c1 A2 n2 c2, A = some ⟨b, off, none⟩ ∧ b < B ∧ l[k]? = some x ∧ I64 x.lsn ∧ IsSl oprRep w' (· < B) A1 n1 x.ops ∧ n1 ≤ c1 ∧ c1 ≤ maxLen ∧ IsSl noteRep w' (· < B) A2 n2 x.notes ∧ n2 ≤ c2 ∧ c2 ≤ maxLen ∧ w'.cell? ⟨b, off + k * 3, none⟩ = some (.int .i64 x.lsn) ∧ w'.cell? ⟨b, off + k * 3 + 1, none⟩ = some (.slice A1 n1 c1) ∧ w'.cell? ⟨b, off + k * 3 + 2, none⟩ = some (.slice A2 n2 c2) := by
  obtain ⟨b, off, x, cs, rfl, hb, hx, ⟨u1, u2, rfl, hl, ⟨A1, n1, c1, e1, s1, p1, q1⟩, ⟨A2, n2, c2, e2, s2, p2, q2⟩⟩, hc⟩ := h.at_ hk
  injection e1 with e1 _
  injection e2 with e2 _
  subst e1 e2
  exact ⟨b, off, x, A1, n1, c1, A2, n2, c2, rfl, hb, hx, hl, s1.keep hw, p1, q1, s2.keep hw, p2, q2, (hw _ hb).trans (hc 0 _ rfl), (hw _ hb).trans (hc 1 _ rfl), (hw _ hb).trans (hc 2 _ rfl)⟩

set_option maxRecDepth 100000 in
set_option maxHeartbeats 16000000 in
theorem batJoin_any (A : Option Addr) (n c : Nat) (l : List Item) (w : World) (h : IsSl itemRep w (· < w.heap.size) A n l) (hn : n ≤ 10000) :
    Calls Try.prog 28 #[.slice A n c] w fun e w' => ItemRes (joinV l) (joinE l) w e w' := by
  obtain ⟨i0, hi, hz0, hz1, hz2⟩ := info_parts info_opr
  obtain ⟨j0, ji, jz0, jz1, jz2⟩ := info_parts info_note
  have H := Lib.hid h
  have HL := Lib.hid h.len
  clear h
  obtain ⟨W0, hW0⟩ : ∃ W0, W0 = w.alloc (.cells #[.int .i64 0, .slice none 0 0, .slice none 0 0] 25) := ⟨_, rfl⟩
  obtain ⟨T, hT⟩ : ∃ T, T = W0.heap.size := ⟨_, rfl⟩
  have hTw : T = w.heap.size + 1 := by rw [hT, hW0]; simp
  have B0 := Lib.hid (show Below w.heap.size w W0 by rw [hW0]; exact (Below.refl _ _).alloc (Nat.le_refl _) _)
  have R0 := Lib.hid (show Blk W0 w.heap.size [.int .i64 0, .slice none 0 0, .slice none 0 0] by rw [hW0]; exact Blk.new rfl rfl)
  have HW0 := Lib.hid hW0
  have HT := Lib.hid hT
  have HTw := Lib.hid hTw
  have hwT : w.heap.size < T := by omega
  clear hW0 hT hTw
  go_enter Try.func28, Try.ntmps28
  go_wp2_with fail
  rw [← HW0.out]
  obtain ⟨W, hW⟩ : ∃ W, W = W0.alloc (.cells #[.int .i64 0, .slice none 0 0, .slice none 0 0] 25) := ⟨_, rfl⟩
  have TW := Lib.hid (show Blk W T [.int .i64 0, .slice none 0 0, .slice none 0 0] by rw [hW, HT.out]; exact Blk.new rfl rfl)
  have BW := Lib.hid (show Below T W0 W by rw [hW, HT.out]; exact (Below.refl _ _).alloc (Nat.le_refl _) _)
  rw [← HTw.out, ← hW]
  clear hW
  go_loopw [5, 10] (fun ri i wr => ∃ (k : Nat) (v2 v3 : Value), ri = .bool (riseL (l.take k)) ∧ i = .int .i64 k ∧ k ≤ n ∧ (l.take k).all mayItem = true ∧ Own oprRep wr (T + 1) (fun _ => False) 29 v2 (opsOf (l.take k)) ∧ Own noteRep wr (T + 1) (fun _ => False) 27 v3 (notesOf (l.take k)) ∧ Apart v2 v3 ∧ Blk wr T [.int .i64 (lsnL (l.take k)), v2, v3] ∧ Below T W0 wr) (fun _ i _ => n - (intOf i).toNat)
  case atStart => exact ⟨0, _, _, rfl, rfl, Nat.zero_le _, rfl, Own.nil _ _ _ (fun _ h => h.elim) _ _, Own.nil _ _ _ (fun _ h => h.elim) _ _, (fun q h => by simp [rowOf] at h), TW.out, BW.out⟩
  case round =>
    obtain ⟨k, v2, v3, rfl, rfl, hk, hall, hown, hown3, hap, hat, hbel⟩ := hrel
    obtain ⟨P, hP⟩ : ∃ P, P = l.take k := ⟨_, rfl⟩
    rw [← hP] at hall hown hown3 hat ⊢
    have hlens := ofs_len P hall
    have hPl : P.length ≤ k := by rw [hP, List.length_take]; omega
    have hol : (opsOf P).length ≤ 4096 * 10000 := by omega
    have hnl : (notesOf P).length ≤ 256 * 10000 := by omega
    have HP := Lib.hid hP
    have HALL := Lib.hid hall
    have OW := Lib.hid hown
    have OV := Lib.hid hown3
    have AP := Lib.hid hap
    have AT := Lib.hid hat
    have BE := Lib.hid hbel
    have HRT : Hid (∀ q, rowOf v2 = some q → T < q) := Lib.hid (fun q hq => Nat.lt_of_succ_le (OW.out.row_ge hq))
    have HRV : Hid (∀ q, rowOf v3 = some q → T < q) := Lib.hid (fun q hq => Nat.lt_of_succ_le (OV.out.row_ge hq))
    have hTs := hat.lt
    have hsb := hbel.size
    clear hP hall hown hown3 hap hbel hlens
    by_cases hlt : k < n
    · obtain ⟨b, off, x, A1, n1, c1, A2, n2, c2, rfl, hbS, hx, hxl, s1, p1, q1, s2, p2, q2, c0, c3, c4⟩ := H.out.item hlt (fun p hp => (BE.out.cell (Nat.lt_trans hp hwT)).trans (B0.out.cell hp))
      have HSN := Lib.hid (take_snoc hx)
      obtain ⟨xl, xo, xn⟩ := x
      dsimp only at hxl s1 s2 c0 c3 c4
      have hkm : (k : Int) < (n : Int) := by omega
      have S1 := Lib.hid s1
      have S2 := Lib.hid s2
      have HC := Lib.hid (And.intro p1 (And.intro q1 (And.intro p2 q2)))
      obtain ⟨W1, hW1⟩ : ∃ W1, W1 = wr.alloc (.cells #[.int .i64 xl, .slice A1 n1 c1, .slice A2 n2 c2] 25) := ⟨_, rfl⟩
      have K1 := Lib.hid (show Blk W1 wr.heap.size [.int .i64 xl, .slice A1 n1 c1, .slice A2 n2 c2] by rw [hW1]; exact Blk.new rfl rfl)
      have B1 := Lib.hid (show Below wr.heap.size wr W1 by rw [hW1]; exact (Below.refl _ _).alloc (Nat.le_refl _) _)
      have HW1 := Lib.hid hW1
      have hwr : w.heap.size ≤ wr.heap.size := by have := B0.out.size; omega
      have M1 := Lib.hid (batMay_any ⟨xl, xo, xn⟩ A1 n1 c1 A2 n2 c2 W1 ((S1.out.keep (fun p hp => B1.out.cell (Nat.lt_of_lt_of_le hp hwr))).weak (fun i hi => Nat.lt_of_lt_of_le hi (Nat.le_trans hwr B1.out.size))) ((S2.out.keep (fun p hp => B1.out.cell (Nat.lt_of_lt_of_le hp hwr))).weak (fun i hi => Nat.lt_of_lt_of_le hi (Nat.le_trans hwr B1.out.size))) p1 q1 p2 q2)
      clear hx s1 s2 p1 q1 p2 q2 hW1 hxl hat
      cases hm : mayItem ⟨xl, xo, xn⟩
      · have HM := Lib.hid hm
        have HJ := Lib.hid (joinE_may (l := l) (by
          have h := all_stop (l := [(⟨xl, xo, xn⟩ : Item)]) (k := 0) rfl hm
          have h2 : (l.take (k + 1)).all mayItem = false := by rw [HSN.out, List.all_append, h, Bool.and_false]
          rw [← List.take_append_drop (k + 1) l, List.all_append, h2, Bool.false_and]))
        clear hm
        go_wp2_with (first
          | (go_at_call 20; (rw [← HW1.out]); (with_reducible refine M1.out.mono ?_); rintro e w3 ⟨rfl, bel3⟩; rw [HM.out]; have BX := Lib.hid (BE.out.trans ((B1.out.trans (bel3.mono B1.out.size)).mono (Nat.le_of_lt hTs))); obtain ⟨r0, r1, r2, rz⟩ := (R0.out.below BX.out hwT).c3; have hRs := (R0.out.below BX.out hwT).lt; clear bel3)
          | fail)
        refine bodyPost_ret (by simp [results, Try.results28, go_sem, r0, r1, r2]; try rfl) rfl ?_
        rw [HJ.out.1, HJ.out.2]
        exact ⟨none, 0, 0, none, 0, 0, rfl, IsSl.nil, Nat.le_refl _, Nat.zero_le _, IsSl.nil, Nat.le_refl _, Nat.zero_le _, set3_below (B0.out.trans (BX.out.mono (Nat.le_of_lt hwT))) (Nat.le_refl _) _ _ _⟩
      · have HM := Lib.hid hm
        have hxp := mayItem_parts hm
        have hxo : n1 ≤ 4096 := by rw [S1.out.len]; exact hxp.2.2.1
        have hxn : n2 ≤ 256 := by rw [S2.out.len]; exact hxp.2.2.2.1
        have HRS := Lib.hid (riseL_snoc P ⟨xl, xo, xn⟩)
        have HLS := Lib.hid (lsnL_snoc P ⟨xl, xo, xn⟩)
        have HOS := Lib.hid (opsOf_snoc P ⟨xl, xo, xn⟩)
        have HNS := Lib.hid (notesOf_snoc P ⟨xl, xo, xn⟩)
        have HAS := Lib.hid (show (P ++ [(⟨xl, xo, xn⟩ : Item)]).all mayItem = true by rw [List.all_append, HALL.out, List.all_cons, hm]; rfl)
        rw [← HP.out] at HSN
        dsimp only at HLS HOS HNS
        obtain ⟨z, hz⟩ : ∃ z, z = lsnL P := ⟨_, rfl⟩
        have HZ := Lib.hid hz
        rw [← hz] at AT HRS
        clear hm hxp hz
        have hX : wr.heap.size < W1.heap.size := K1.out.lt
        have HRX : Hid (∀ q, rowOf v2 = some q → q < wr.heap.size) := Lib.hid (fun q hq => OW.out.row_lt hq)
        have HRX3 : Hid (∀ q, rowOf v3 = some q → q < wr.heap.size) := Lib.hid (fun q hq => OV.out.row_lt hq)
        have hTle : T ≤ wr.heap.size := Nat.le_of_lt hTs
        cases hr : riseL P
        all_goals
          have HR := Lib.hid hr
          clear hr
          go_upto_region 10 with (first
            | (go_at_call 20; (rw [← HW1.out]); (with_reducible refine M1.out.mono ?_); rintro e w3 ⟨rfl, bel3⟩; rw [HM.out]; have BX := Lib.hid (B1.out.trans (bel3.mono B1.out.size)); have KX := Lib.hid (K1.out.after bel3); have AX := Lib.hid (AT.out.after BX.out); obtain ⟨x0, x1, x2, xz⟩ := KX.out.c3; obtain ⟨t0, t1, t2, tz⟩ := AX.out.c3; have hXs := KX.out.lt; have hTX := AX.out.lt; clear bel3)
            | fail)
          obtain ⟨W4, hW4⟩ : ∃ W4, W4 = w3.setCell ⟨T, 0, none⟩ (.int .i64 xl) := ⟨_, rfl⟩
          have hXT : wr.heap.size ≠ T := Nat.ne_of_gt hTs
          have g4 := grownBy_set w3 ⟨T, 0, none⟩ (.int .i64 xl)
          have KX4 := Lib.hid (show Blk W4 wr.heap.size [.int .i64 xl, .slice A1 n1 c1, .slice A2 n2 c2] by rw [hW4]; exact KX.out.other hXT 0 _)
          have AX4 := Lib.hid (show Blk W4 T [.int .i64 xl, v2, v3] by rw [hW4]; exact AX.out.put (j := 0) (by simp) _ rfl)
          have OW4 := Lib.hid (show Own oprRep W4 (T + 1) (fun _ => False) 29 v2 (opsOf P) by rw [hW4]; exact (OW.out.below BX.out).kept g4 (fun k hk => ⟨fun e => (by have h1 := HRT.out k e; injection hk with hk; dsimp only at hk; omega), id⟩))
          have OV4 := Lib.hid (show Own noteRep W4 (T + 1) (fun _ => False) 27 v3 (notesOf P) by rw [hW4]; exact (OV.out.below BX.out).kept g4 (fun k hk => ⟨fun e => (by have h1 := HRV.out k e; injection hk with hk; dsimp only at hk; omega), id⟩))
          have BE4 := Lib.hid (show Below T W0 W4 by rw [hW4]; exact (BE.out.trans (BX.out.mono hTle)).setCell (p := ⟨T, 0, none⟩) (Nat.le_refl _) _)
          have hs4 : wr.heap.size < W4.heap.size := KX4.out.lt
          have hT4 : T < W4.heap.size := AX4.out.lt
          have SO4 := Lib.hid (show Src oprRep W4 (fun _ => False) A1 n1 xo from IsSl.srcAll flat_opr (S1.out.keep (w' := W4) (fun p hp => (BE4.out.cell (Nat.lt_trans hp hwT)).trans (BE.out.cell (Nat.lt_trans hp hwT)).symm)))
          rw [← hW4]
          clear hW4 x0 x1 x2 xz t0 t1 t2 tz g4
          obtain ⟨x0, x1, x2, xz⟩ := KX4.out.c3
          obtain ⟨t0, t1, t2, tz⟩ := AX4.out.c3
          go_upto_region 11 with (first
            | (at_builtin; refine wpList_append_Own _ rfl _ _ 22 rfl (T + 1) 29 i0 _ 48 Try.underlying22 hi hz0 hz1 hz2 rfl (R := oprRep) (S := fun _ => False) (l := opsOf P) (l' := xo) v2 rfl OW4.out A1 n1 c1 rfl SO4.out (by simp only [maxLen]; omega) (by omega) (by omega) hT4 ?_; intro v5 w5 own5 gr5 at5; have AP5 := Lib.hid (AP.out.app (fun q hq => Nat.lt_trans (HRX3.out q hq) hs4) at5); have KX5 := Lib.hid (KX4.out.grown gr5 (fun k hk => by have := HRX.out k hk; omega)); have AX5 := Lib.hid (AX4.out.grown gr5 (fun k hk => by have := HRT.out k hk; omega)); have OV5 := Lib.hid (OV4.out.kept gr5 (fun k hk => ⟨fun e => AP.out k hk e, id⟩)); have BE5 := Lib.hid (BE4.out.grown gr5 (Nat.le_of_lt hT4) (fun k hk => Nat.le_of_lt (HRT.out k hk))); obtain ⟨A5, c5, hv5, hlc5, hcm5, sl5⟩ := own5.isSlB; obtain ⟨m5, hm5⟩ : ∃ m5, m5 = (opsOf P ++ xo).length := ⟨_, rfl⟩; rw [← hm5] at hv5; subst hv5; have OW5 := Lib.hid own5; obtain ⟨x0, x1, x2, xz⟩ := KX5.out.c3; obtain ⟨t0, t1, t2, tz⟩ := AX5.out.c3; have hs5 : wr.heap.size < w5.heap.size := KX5.out.lt; have hT5 : T < w5.heap.size := AX5.out.lt; clear own5 gr5 at5 hlc5 hcm5 sl5 hm5)
            | fail)
          obtain ⟨W6, hW6⟩ : ∃ W6, W6 = w5.setCell ⟨T, 1, none⟩ (.slice A5 m5 c5) := ⟨_, rfl⟩
          have g6 := grownBy_set w5 ⟨T, 1, none⟩ (.slice A5 m5 c5)
          have KX6 := Lib.hid (show Blk W6 wr.heap.size [.int .i64 xl, .slice A1 n1 c1, .slice A2 n2 c2] by rw [hW6]; exact KX5.out.other hXT 1 _)
          have AX6 := Lib.hid (show Blk W6 T [.int .i64 xl, .slice A5 m5 c5, v3] by rw [hW6]; exact AX5.out.put (j := 1) (by simp) _ rfl)
          have OW6 := Lib.hid (show Own oprRep W6 (T + 1) (fun _ => False) 29 (.slice A5 m5 c5) (opsOf P ++ xo) by rw [hW6]; exact OW5.out.kept g6 (fun k hk => ⟨fun e => (by have h1 := OW5.out.row_ge e; injection hk with hk; dsimp only at hk; omega), id⟩))
          have OV6 := Lib.hid (show Own noteRep W6 (T + 1) (fun _ => False) 27 v3 (notesOf P) by rw [hW6]; exact OV5.out.kept g6 (fun k hk => ⟨fun e => (by have h1 := HRV.out k e; injection hk with hk; dsimp only at hk; omega), id⟩))
          have BE6 := Lib.hid (show Below T W0 W6 by rw [hW6]; exact BE5.out.setCell (p := ⟨T, 1, none⟩) (Nat.le_refl _) _)
          have hs6 : wr.heap.size < W6.heap.size := KX6.out.lt
          have hT6 : T < W6.heap.size := AX6.out.lt
          have SN6 := Lib.hid (show Src noteRep W6 (fun _ => False) A2 n2 xn from IsSl.srcAll flat_note (S2.out.keep (w' := W6) (fun p hp => (BE6.out.cell (Nat.lt_trans hp hwT)).trans (BE.out.cell (Nat.lt_trans hp hwT)).symm)))
          rw [← hW6]
          clear hW6 x0 x1 x2 xz t0 t1 t2 tz g6
          obtain ⟨x0, x1, x2, xz⟩ := KX6.out.c3
          obtain ⟨t0, t1, t2, tz⟩ := AX6.out.c3
          go_wp2_with (first
            | (at_builtin; refine wpList_append_Own _ rfl _ _ 23 rfl (T + 1) 27 j0 _ 56 Try.underlying23 ji jz0 jz1 jz2 rfl (R := noteRep) (S := fun _ => False) (l := notesOf P) (l' := xn) v3 rfl OV6.out A2 n2 c2 rfl SN6.out (by simp only [maxLen]; omega) (by omega) (by omega) hT6 ?_; intro v7 w7 own7 gr7 at7; have AP7 := Lib.hid (AP5.out.symm.app (fun q hq => OW6.out.row_lt hq) at7); have AX7 := Lib.hid (AX6.out.grown gr7 (fun k hk => by have := HRV.out k hk; omega)); have OW7 := Lib.hid (OW6.out.kept gr7 (fun k hk => ⟨fun e => AP5.out k e hk, id⟩)); have BE7 := Lib.hid (BE6.out.grown gr7 (Nat.le_of_lt hT6) (fun k hk => Nat.le_of_lt (HRV.out k hk))); obtain ⟨A7, c7, hv7, hlc7, hcm7, sl7⟩ := own7.isSlB; obtain ⟨m7, hm7⟩ : ∃ m7, m7 = (notesOf P ++ xn).length := ⟨_, rfl⟩; rw [← hm7] at hv7; subst hv7; have OV7 := Lib.hid own7; obtain ⟨t0, t1, t2, tz⟩ := AX7.out.c3; have hT7 : T < w7.heap.size := AX7.out.lt; clear own7 gr7 at7 hlc7 hcm7 sl7 hm7)
            | fail)
          go_roundw
          case rel => exact ⟨k + 1, _, _, by rw [HSN.out, HRS.out, HR.out]; simp, by go_num, by omega, by rw [HSN.out]; exact HAS.out, by rw [HSN.out, HOS.out]; exact OW7.out.kept (grownBy_set w7 ⟨T, 2, none⟩ _) (fun k hk => ⟨fun e => (by have h1 := OW7.out.row_ge e; injection hk with hk; dsimp only at hk; omega), id⟩), by rw [HSN.out, HNS.out]; exact OV7.out.kept (grownBy_set w7 ⟨T, 2, none⟩ _) (fun k hk => ⟨fun e => (by have h1 := OV7.out.row_ge e; injection hk with hk; dsimp only at hk; omega), id⟩), AP7.out.symm, by rw [HSN.out, HLS.out]; exact AX7.out.put (by simp) _ rfl, BE7.out.setCell (p := ⟨T, 2, none⟩) (Nat.le_refl _) _⟩
          case measure => simp [intOf]; omega
    · obtain rfl : k = n := by omega
      have hPe : l = P := by rw [HP.out]; exact (List.take_of_length_le (by rw [← HL.out]; exact Nat.le_refl _)).symm
      subst hPe
      obtain ⟨A5, c5, hv5, hlc5, hcm5, sl5⟩ := OW.out.isSlR
      subst hv5
      obtain ⟨A7, c7, hv7, hlc7, hcm7, sl7⟩ := OV.out.isSlR
      subst hv7
      have SL5 := Lib.hid sl5
      have SL7 := Lib.hid sl7
      obtain ⟨m5, hm5⟩ : ∃ m5, m5 = (opsOf l).length := ⟨_, rfl⟩
      obtain ⟨m7, hm7⟩ : ∃ m7, m7 = (notesOf l).length := ⟨_, rfl⟩
      rw [← hm5] at SL5 AT hlc5 hol
      rw [← hm7] at SL7 AT hlc7 hnl
      have HM5 := Lib.hid hm5
      have HM7 := Lib.hid hm7
      obtain ⟨z, hz⟩ : ∃ z, z = lsnL l := ⟨_, rfl⟩
      rw [← hz] at AT
      have HZ := Lib.hid hz
      have hkl : k = l.length := HL.out
      have HKL := Lib.hid hkl
      obtain ⟨t0, t1, t2, tz⟩ := AT.out.c3
      obtain ⟨r0, r1, r2, rz⟩ := (R0.out.below BE.out hwT).c3
      have hRs := (R0.out.below BE.out hwT).lt
      have hc : k = 0 ∨ (k ≠ 0 ∧ 4096 < m5) ∨ (k ≠ 0 ∧ m5 ≤ 4096 ∧ 256 < m7) ∨ (k ≠ 0 ∧ m5 ≤ 4096 ∧ m7 ≤ 256) := by omega
      have hkk : decide ((k : Int) < (k : Int)) = false := by simp
      clear hm5 hm7 hz sl5 sl7 hkl hat OW OV AP HRT HRV HP
      rcases hc with hc | ⟨hc, hc1⟩ | ⟨hc, hc1, hc2⟩ | ⟨hc, hc1, hc2⟩
      · have HJ := Lib.hid (joinE_size (l := l) (.inl (by rw [← HKL.out]; exact hc)))
        have h0 : ((k : Int) == 0) = true := by simp; omega
        clear hc
        go_wp2_with fail
        refine bodyPost_ret (by simp [results, Try.results28, go_sem, r0, r1, r2]; try rfl) rfl ?_
        rw [HJ.out.1, HJ.out.2]
        exact ⟨none, 0, 0, none, 0, 0, rfl, IsSl.nil, Nat.le_refl _, Nat.zero_le _, IsSl.nil, Nat.le_refl _, Nat.zero_le _, set3_below (B0.out.trans (BE.out.mono (Nat.le_of_lt hwT))) (Nat.le_refl _) _ _ _⟩
      · have HJ := Lib.hid (joinE_size (l := l) (.inr (.inl (by rw [← HM5.out]; exact hc1))))
        have h0 : ((k : Int) == 0) = false := by simp; omega
        have h1 : decide (4096 < (m5 : Int)) = true := by simp; omega
        clear hc
        go_wp2_with fail
        refine bodyPost_ret (by simp [results, Try.results28, go_sem, r0, r1, r2]; try rfl) rfl ?_
        rw [HJ.out.1, HJ.out.2]
        exact ⟨none, 0, 0, none, 0, 0, rfl, IsSl.nil, Nat.le_refl _, Nat.zero_le _, IsSl.nil, Nat.le_refl _, Nat.zero_le _, set3_below (B0.out.trans (BE.out.mono (Nat.le_of_lt hwT))) (Nat.le_refl _) _ _ _⟩
      · have HJ := Lib.hid (joinE_size (l := l) (.inr (.inr (by rw [← HM7.out]; exact hc2))))
        have h0 : ((k : Int) == 0) = false := by simp; omega
        have h1 : decide (4096 < (m5 : Int)) = false := by simp; omega
        have h2 : decide (256 < (m7 : Int)) = true := by simp; omega
        clear hc
        go_wp2_with fail
        refine bodyPost_ret (by simp [results, Try.results28, go_sem, r0, r1, r2]; try rfl) rfl ?_
        rw [HJ.out.1, HJ.out.2]
        exact ⟨none, 0, 0, none, 0, 0, rfl, IsSl.nil, Nat.le_refl _, Nat.zero_le _, IsSl.nil, Nat.le_refl _, Nat.zero_le _, set3_below (B0.out.trans (BE.out.mono (Nat.le_of_lt hwT))) (Nat.le_refl _) _ _ _⟩
      · have h0 : ((k : Int) == 0) = false := by simp; omega
        have h1 : decide (4096 < (m5 : Int)) = false := by simp; omega
        have h2 : decide (256 < (m7 : Int)) = false := by simp; omega
        have HK0 := Lib.hid (show l.length ≠ 0 by rw [← HKL.out]; exact hc)
        have HO := Lib.hid (show (opsOf l).length ≤ 4096 by rw [← HM5.out]; exact hc1)
        have HN := Lib.hid (show (notesOf l).length ≤ 256 by rw [← HM7.out]; exact hc2)
        clear hc
        cases hr : riseL l
        · have HJ := Lib.hid (joinE_rise HALL.out HK0.out HO.out HN.out hr)
          clear hr
          go_wp2_with fail
          refine bodyPost_ret (by simp [results, Try.results28, go_sem, r0, r1, r2]; try rfl) rfl ?_
          rw [HJ.out.1, HJ.out.2]
          exact ⟨none, 0, 0, none, 0, 0, rfl, IsSl.nil, Nat.le_refl _, Nat.zero_le _, IsSl.nil, Nat.le_refl _, Nat.zero_le _, set3_below (B0.out.trans (BE.out.mono (Nat.le_of_lt hwT))) (Nat.le_refl _) _ _ _⟩
        · have HJ := Lib.hid (show joinE l = 0 ∧ joinV l = ⟨z, opsOf l, notesOf l⟩ by rw [HZ.out]; exact joinE_ok HALL.out HK0.out HO.out HN.out hr)
          clear hr
          go_wp2_with fail
          refine bodyPost_ret (by simp [results, Try.results28, go_sem, r0, r1, r2]; try rfl) rfl ?_
          rw [HJ.out.1, HJ.out.2]
          exact ⟨A5, m5, c5, A7, m7, c7, rfl, (set3_keep SL5.out (by omega) _ _ _).weak (fun b hb => by simp; omega), hlc5, hcm5, (set3_keep SL7.out (by omega) _ _ _).weak (fun b hb => by simp; omega), hlc7, hcm7, set3_below (B0.out.trans (BE.out.mono (Nat.le_of_lt hwT))) (Nat.le_refl _) _ _ _⟩
end Go.Proofs.Ytcohheoahdbgmaa
