/- The walk of the law BatchParts. Written by gen_batn.py. -/
import Derived.Test.YtcohheoahdbgmaaBatN
import Derived.Deep.RegionHeld3
import Derived.Deep.Cut
set_option linter.unusedVariables false
set_option linter.unusedSimpArgs false
namespace Go.Proofs.Ytcohheoahdbgmaa
open Go.RowKit

set_option maxRecDepth 100000 in
set_option maxHeartbeats 16000000 in
theorem batchParts_walk (w : World) (A : Option Addr) (n c : Nat) (l : List Item) (h : IsSl itemRep w (· < w.heap.size) A n l) (h1 : n ≤ c) (h2 : c ≤ maxLen) (cut : Int) (_ : I64 cut) :
    Calls Try.prog 7 #[.slice A n c, .int .i64 cut] w fun e w' => e = .returned (.bool true) ∧ Below w.heap.size w w' := by
  obtain ⟨i0, hi, hz0, hz1, hz2⟩ := info_parts info_item
  have HH := Lib.hid h
  have HL := Lib.hid h.len
  clear h
  go_enter Try.func7, Try.ntmps7
  go_wp2_with fail
  go_loopw [5, 6, 7] (fun v la i wr => ∃ (k : Nat) (L : List Item), i = .int .i64 k ∧ k ≤ n ∧ k ≤ 12 ∧ la = .int .i64 (lsnL L) ∧ GoodL L k ∧ OwnI wr w.heap.size v L ∧ Below w.heap.size w wr) (fun _ _ i _ => n - (intOf i).toNat)
  case atStart => exact ⟨0, [], rfl, Nat.zero_le _, Nat.zero_le _, rfl, ⟨rfl, rfl, rfl, by decide, by decide, by decide, by decide⟩, ⟨fun _ => False, fun _ h => h.elim, Own.nil _ _ _ (fun _ h => h.elim) _ _⟩, Below.refl _ _⟩
  case round =>
    obtain ⟨k, L, rfl, hk, hk12, rfl, hgood, hown, hbel⟩ := hrel
    have HG := Lib.hid hgood
    have BE := Lib.hid hbel
    have hsz := hbel.size
    obtain ⟨la, hla⟩ : ∃ la, la = lsnL L := ⟨_, rfl⟩
    have hla0 : 0 ≤ la := by rw [hla]; exact hgood.low
    have hla1 : la ≤ 36 := by rw [hla]; have := hgood.top; omega
    rw [← hla]
    have HLA := Lib.hid hla
    clear hla hgood hbel
    by_cases hlt : k < n ∧ k < 12
    · obtain ⟨hkn, hk2⟩ := hlt
      obtain ⟨S, hS, hown⟩ := hown
      obtain ⟨b, off, x, A1, n1, c1, A2, n2, c2, rfl, hbS, hx, hxl, s1, p1, q1, s2, p2, q2, c0, c3, c4⟩ := HH.out.item hkn (fun p hp => BE.out.cell hp)
      have hd1 : decide ((k : Int) < (n : Int)) = true := decide_eq_true (by omega)
      have hd2 : decide ((k : Int) < 12) = true := decide_eq_true (by omega)
      have hkm : (k : Int) < (n : Int) := by omega
      have hk0 : (0 : Int) ≤ (k : Int) := by omega
      have S1 := Lib.hid (s1.more hsz)
      have S2 := Lib.hid (s2.more hsz)
      have HS := Lib.hid hS
      have OW := Lib.hid hown
      obtain ⟨y, hy⟩ : ∃ y, y = someI la x := ⟨_, rfl⟩
      have HY := Lib.hid hy
      have hmay := someI_may la x hla0 (by omega)
      rw [← hy] at hmay
      have HYL := Lib.hid (show I64 y.lsn by have := mayItem_parts hmay; unfold I64; omega)
      have HGS := Lib.hid (show GoodL (L ++ [y]) (k + 1) by rw [hy, HLA.out]; exact HG.out.snoc hk2 x)
      have hLl : L.length ≤ 12 := by rw [HG.out.len]; exact hk12
      have hwr := hsz
      clear hx s1 s2 hS hown hy hmay
      go_wp2_with (first
        | (go_at_call 16; (with_reducible refine (some_any x A1 n1 c1 A2 n2 c2 la wr S1.out S2.out hla0 (by omega)).mono ?_); rintro e w1 ⟨Ay, ny, cy, By, my, dy, rfl, sy, ly, my1, sy2, ly2, my2, bel1⟩; rw [← HY.out] at sy sy2 ⊢; have hs1 := bel1.size; have B1 := Lib.hid bel1; have SY := Lib.hid sy; have SY2 := Lib.hid sy2; have K1 := Lib.hid (Blk.new (w := w1) (cs := #[.int .i64 y.lsn, .slice Ay ny cy, .slice By my dy]) (t := 25) rfl rfl); obtain ⟨t0, t1, t2, tz⟩ := K1.out.c3; have OW1 := Lib.hid (OwnI.next (B := w1.heap.size) HS.out OW.out hs1 ((bel1.alloc hs1 (.cells #[.int .i64 y.lsn, .slice Ay ny cy, .slice By my dy] 25)).alloc (by simp; omega) (.cells #[.int .i64 y.lsn, .slice Ay ny cy, .slice By my dy] 25)) (by simp; omega)); have REL := Lib.hid (show itemRep.rel ((w1.alloc (.cells #[.int .i64 y.lsn, .slice Ay ny cy, .slice By my dy] 25)).alloc (.cells #[.int .i64 y.lsn, .slice Ay ny cy, .slice By my dy] 25)) (fun b => S b ∨ (wr.heap.size ≤ b ∧ b < w1.heap.size)) y [.int .i64 y.lsn, .slice Ay ny cy, .slice By my dy] from itemRep.weak (itemRep.keep (w := w1) (S := fun b => wr.heap.size ≤ b ∧ b < w1.heap.size) ⟨_, _, rfl, HYL.out, ⟨Ay, ny, cy, rfl, sy, ly, my1⟩, ⟨By, my, dy, rfl, sy2, ly2, my2⟩⟩ (fun p hp => (((Below.refl w1.heap.size w1).alloc (Nat.le_refl _) _).alloc (by simp) _).cell hp.2)) (fun b hb => .inr hb)); clear sy sy2 bel1)
        | (at_builtin; refine wpList_append_Own _ rfl _ _ 34 rfl w.heap.size 25 i0 _ 56 Try.underlying34 hi hz0 hz1 hz2 rfl (R := itemRep) (S := fun b => S b ∨ (wr.heap.size ≤ b ∧ b < w1.heap.size)) (l := L) (l' := [y]) u5 rfl OW1.out _ 1 1 rfl ?_ (by simp only [maxLen]; omega) (by omega) (by omega) (by simp; omega) ?_; exact Src.newAt (cs := [.int .i64 y.lsn, .slice Ay ny cy, .slice By my dy]) (by simp) REL.out; intro v6 w6 own6 gr6 at6; have OW6 := Lib.hid own6; have BW6 := Lib.hid (((BE.out.trans (B1.out.mono hwr)).alloc (by omega) _).alloc (by simp; omega) _ |>.grown gr6 (by simp; omega) (fun g hg => OW1.out.row_ge hg)); clear own6 gr6 at6)
        | fail)
      go_roundw
      case rel => exact ⟨k + 1, L ++ [y], by go_num, by omega, by omega, by rw [lsnL_snoc], HGS.out, ⟨_, fun b hb => hb.elim (HS.out b) (fun hb => by omega), OW6.out⟩, BW6.out⟩
      case measure => simp [intOf]; omega
    · have hend : n ≤ k ∨ (k < n ∧ k = 12) := by omega
      obtain ⟨AL, cL, rfl, hlc, hcm, slL, hgL⟩ := hown.sl
      have hLk := HG.out.len
      rw [hLk] at hlc slL ⊢
      have SL := Lib.hid slL
      have hd : decide ((k : Int) < (n : Int)) = false ∨ (decide ((k : Int) < (n : Int)) = true ∧ decide ((k : Int) < 12) = false) := by
        rcases hend with h | ⟨h1, h2⟩
        · left; exact decide_eq_false (by omega)
        · right; exact ⟨decide_eq_true (by omega), decide_eq_false (by omega)⟩
      clear hend hlt slL
      by_cases hk2 : k < 2
      · have hdk : decide ((k : Int) < 2) = true := decide_eq_true (by omega)
        clear hown hgL hLk
        rcases hd with hd | ⟨hd, hd2⟩
        all_goals
          have hdn := hd
          simp only [Int.ofNat_lt] at hdn
          go_wp2_with (go_at_call 15; (with_reducible refine (awake16 _).mono ?_); rintro e w1' ⟨rfl, hb1⟩; have B9 := Lib.hid (below_next BE.out hb1); clear hb1)
          go_ret
          exact ⟨rfl, B9.out⟩
      · have hdk : decide ((k : Int) < 2) = false := decide_eq_false (by omega)
        obtain ⟨g, rfl⟩ := hgL (by rintro rfl; have := HG.out.len; simp at this; omega)
        obtain ⟨q, hq⟩ : ∃ q, q = modOf cut ((k : Int) - 1) := ⟨_, rfl⟩
        have hqr := modOf_range cut ((k : Int) - 1) (by omega)
        rw [← hq] at hqr
        have HQ := Lib.hid hq
        obtain ⟨p, hp⟩ : ∃ p : Nat, (p : Int) = 1 + q := ⟨(1 + q).toNat, by omega⟩
        have HP := Lib.hid hp
        have hp1 : 1 ≤ p := by omega
        have hp2 : p < k := by omega
        have hpi : (p : Int) ≤ (k : Int) := by omega
        have hpc : (p : Int) ≤ (cL : Int) := by omega
        have hkc : (k : Int) ≤ (cL : Int) := by omega
        have hp0 : (0 : Int) ≤ (p : Int) := by omega
        have hne : ((p : Int) == (cL : Int)) = false := by simp; omega
        have hnn : (cL : Int) ≠ (p : Int) := by omega
        have hnn2 : ¬ cL = p := by omega
        obtain ⟨jl, ja, jb, jj, jv⟩ := join_parts (l := L) (k := p) (by omega) (by omega) HG.out.may HG.out.rise (by have := HG.out.ops; omega) (by have := HG.out.notes; omega)
        have JL := Lib.hid jl
        have JA := Lib.hid ja
        have JB := Lib.hid jb
        have JJ := Lib.hid jj
        have JV := Lib.hid jv
        have JN := Lib.hid (joinV_len L)
        obtain ⟨X, hX⟩ : ∃ X, X = joinV L := ⟨_, rfl⟩
        obtain ⟨Ya, hYa⟩ : ∃ Ya, Ya = joinV (L.take p) := ⟨_, rfl⟩
        obtain ⟨Yb, hYb⟩ : ∃ Yb, Yb = joinV (L.drop p) := ⟨_, rfl⟩
        have hxa : I64 Ya.lsn ∧ I64 Yb.lsn := by rw [hYa, hYb]; exact ⟨joinV_wf _, joinV_wf _⟩
        rw [← hYa, ← hYb] at JJ JV
        rw [← hX] at JV JN
        have HX := Lib.hid hX
        have HYa := Lib.hid hYa
        have HYb := Lib.hid hYb
        have HXA := Lib.hid hxa
        clear hq hp jl ja jb jj jv hX hYa hYb hxa hown hgL
        rcases hd with hd | ⟨hd, hd2⟩
        all_goals
          have hdn := hd
          simp only [Int.ofNat_lt] at hdn
          go_upto_region 12 with (first
            | (go_at_call 17; (with_reducible refine (mod_any cut ((k : Int) - 1) _ (by omega) (by omega)).mono ?_); rintro e w' ⟨rfl, rfl⟩; rw [← HQ.out])
            | fail)
          rw [← HP.out]
          go_wp2_with (first
            | (go_at_call 28; (with_reducible refine (batJoin_any (some ⟨g, 0, none⟩) (k) (cL) (L) wr SL.out (by omega)).mono ?_); rintro e w1 ⟨A1, n1, c1, E1, m1, d1, rfl, s1, l1, k1, s1', l1', k1', bel1⟩; rw [JL.out]; rw [← HX.out] at s1 s1' ⊢; have bw1 : Below w1.heap.size w1 (w1.alloc (.cells #[.int .i64 X.lsn, .slice A1 n1 c1, .slice E1 m1 d1] 25)) := (Below.refl _ _).alloc (Nat.le_refl _) _; have L1 := Lib.hid (show Lies (w1.alloc (.cells #[.int .i64 X.lsn, .slice A1 n1 c1, .slice E1 m1 d1] 25)) X A1 n1 c1 E1 m1 d1 from (⟨s1, l1, k1, s1', l1', k1'⟩ : Lies w1 X A1 n1 c1 E1 m1 d1).after bw1); have T1 := Lib.hid (Blk.new (w := w1) (cs := #[.int .i64 X.lsn, .slice A1 n1 c1, .slice E1 m1 d1]) (t := 25) rfl rfl); have B1 := Lib.hid (below_next (below_next BE.out bel1) bw1); have SL1 := Lib.hid ((SL.out.afterB bel1).afterB bw1); clear s1 s1' bel1)
            | (go_at_call 28; (with_reducible refine (batJoin_any (some ⟨g, 0, none⟩) (p) (cL) (L.take p) _ (SL1.out.cutTo (by omega)) (by omega)).mono ?_); rintro e w2 ⟨A2, n2, c2, E2, m2, d2, rfl, s2, l2, k2, s2', l2', k2', bel2⟩; rw [JA.out]; rw [← HYa.out] at s2 s2' ⊢; have bw2 : Below w2.heap.size w2 (w2.alloc (.cells #[.int .i64 Ya.lsn, .slice A2 n2 c2, .slice E2 m2 d2] 25)) := (Below.refl _ _).alloc (Nat.le_refl _) _; have L2 := Lib.hid (show Lies (w2.alloc (.cells #[.int .i64 Ya.lsn, .slice A2 n2 c2, .slice E2 m2 d2] 25)) Ya A2 n2 c2 E2 m2 d2 from (⟨s2, l2, k2, s2', l2', k2'⟩ : Lies w2 Ya A2 n2 c2 E2 m2 d2).after bw2); have T2 := Lib.hid (Blk.new (w := w2) (cs := #[.int .i64 Ya.lsn, .slice A2 n2 c2, .slice E2 m2 d2]) (t := 25) rfl rfl); have B2 := Lib.hid (below_next (below_next B1.out bel2) bw2); have SL2 := Lib.hid ((SL1.out.afterB bel2).afterB bw2); have L12 := Lib.hid ((L1.out.after bel2).after bw2); have T12 := Lib.hid ((T1.out.after bel2).after bw2); clear s2 s2' bel2)
            | (go_at_call 28; (with_reducible refine (batJoin_any (some ⟨g, p * 3, none⟩) (k - p) (cL - p) (L.drop p) _ (items_from SL2.out (by omega)) (by omega)).mono ?_); rintro e w3 ⟨A3, n3, c3, E3, m3, d3, rfl, s3, l3, k3, s3', l3', k3', bel3⟩; rw [JB.out]; rw [← HYb.out] at s3 s3' ⊢; have bw3 : Below w3.heap.size w3 (w3.alloc (.cells #[.int .i64 Yb.lsn, .slice A3 n3 c3, .slice E3 m3 d3] 25)) := (Below.refl _ _).alloc (Nat.le_refl _) _; have L3 := Lib.hid (show Lies (w3.alloc (.cells #[.int .i64 Yb.lsn, .slice A3 n3 c3, .slice E3 m3 d3] 25)) Yb A3 n3 c3 E3 m3 d3 from (⟨s3, l3, k3, s3', l3', k3'⟩ : Lies w3 Yb A3 n3 c3 E3 m3 d3).after bw3); have T3 := Lib.hid (Blk.new (w := w3) (cs := #[.int .i64 Yb.lsn, .slice A3 n3 c3, .slice E3 m3 d3]) (t := 25) rfl rfl); have B3 := Lib.hid (below_next (below_next B2.out bel3) bw3); have L13 := Lib.hid ((L12.out.after bel3).after bw3); have T13 := Lib.hid ((T12.out.after bel3).after bw3); have L23 := Lib.hid ((L2.out.after bel3).after bw3); have T23 := Lib.hid ((T2.out.after bel3).after bw3); obtain ⟨a0, a1, a2, az⟩ := T23.out.c3; obtain ⟨b0, b1, b2, bz⟩ := T3.out.c3; clear s3 s3' bel3)
            | (go_at_call 28; (with_reducible refine (batJoin_any _ (2) (2) ([Ya, Yb]) _ (two_lies L23.out L3.out HXA.out 25 (d := w3.heap.size + 1) (by simp) rfl) (by omega)).mono ?_); rintro e w4 ⟨A4, n4, c4, E4, m4, d4, rfl, s4, l4, k4, s4', l4', k4', bel4⟩; rw [JJ.out]; rw [JV.out] at s4 s4' ⊢; have bw0 : Below (w3.alloc (.cells #[.int .i64 Yb.lsn, .slice A3 n3 c3, .slice E3 m3 d3] 25)).heap.size (w3.alloc (.cells #[.int .i64 Yb.lsn, .slice A3 n3 c3, .slice E3 m3 d3] 25)) ((w3.alloc (.cells #[.int .i64 Yb.lsn, .slice A3 n3 c3, .slice E3 m3 d3] 25)).alloc (.cells #[.int .i64 Ya.lsn, .slice A2 n2 c2, .slice E2 m2 d2, .int .i64 Yb.lsn, .slice A3 n3 c3, .slice E3 m3 d3] 25)) := (Below.refl _ _).alloc (Nat.le_refl _) _; have bw4 : Below w4.heap.size w4 (w4.alloc (.cells #[.int .i64 X.lsn, .slice A4 n4 c4, .slice E4 m4 d4] 25)) := (Below.refl _ _).alloc (Nat.le_refl _) _; have L4 := Lib.hid (show Lies (w4.alloc (.cells #[.int .i64 X.lsn, .slice A4 n4 c4, .slice E4 m4 d4] 25)) X A4 n4 c4 E4 m4 d4 from (⟨s4, l4, k4, s4', l4', k4'⟩ : Lies w4 X A4 n4 c4 E4 m4 d4).after bw4); have T4 := Lib.hid (Blk.new (w := w4) (cs := #[.int .i64 X.lsn, .slice A4 n4 c4, .slice E4 m4 d4]) (t := 25) rfl rfl); have B4 := Lib.hid (below_next (below_next (below_next B3.out bw0) bel4) bw4); have L14 := Lib.hid (((L13.out.after bw0).after bel4).after bw4); have T14 := Lib.hid (((T13.out.after bw0).after bel4).after bw4); obtain ⟨x0, x1, x2, xz⟩ := T14.out.c3; obtain ⟨y0, y1, y2, yz⟩ := T4.out.c3; clear s4 s4' bel4)
            | (go_at_call 15; (with_reducible refine (awake16 _).mono ?_); rintro e w5 ⟨rfl, bel5⟩; have B5 := Lib.hid (below_next B4.out bel5); have L15 := Lib.hid (L14.out.after bel5); have L45 := Lib.hid (L4.out.after bel5); obtain ⟨x0, x1, x2, xz⟩ := (T14.out.after bel5).c3; obtain ⟨y0, y1, y2, yz⟩ := (T4.out.after bel5).c3; clear bel5)
            | (go_at_call 25; (with_reducible refine (item_any X.lsn A1 E1 A4 E4 n1 m1 c1 d1 n4 m4 c4 d4 X.ops X.notes _ L15.out.s L45.out.s L15.out.s2 L45.out.s2 (L15.out.small JN.out).1 (L15.out.small JN.out).2).mono ?_); rintro e w7 ⟨rfl, bel7⟩; have B7 := Lib.hid (below_next B5.out bel7); clear bel7)
            | fail)
          go_ret
          exact ⟨rfl, B7.out⟩
end Go.Proofs.Ytcohheoahdbgmaa
