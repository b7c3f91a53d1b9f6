/- The walk of the law BatchJoins. Written by gen_batn.py. -/
import Derived.Test.YtcohheoahdbgmaaBatN
import Derived.Deep.RegionHeld3
import Derived.Deep.Cut
set_option linter.unusedVariables false
set_option linter.unusedSimpArgs false
namespace Go.Proofs.Ytcohheoahdbgmaa
open Go.RowKit

set_option maxRecDepth 100000 in
set_option maxHeartbeats 16000000 in
theorem batchJoins_walk (w : World) (A : Option Addr) (n c : Nat) (l : List Item) (h : IsSl itemRep w (· < w.heap.size) A n l) (h1 : n ≤ c) (h2 : c ≤ maxLen) (nn : Int) (_ : I64 nn) :
    Calls Try.prog 6 #[.slice A n c, .int .i64 nn] w fun e w' => e = .returned (.bool true) ∧ Below w.heap.size w w' := by
  obtain ⟨i0, hi, hz0, hz1, hz2⟩ := info_parts info_item
  have HH := Lib.hid h
  have HL := Lib.hid h.len
  clear h
  go_enter Try.func6, Try.ntmps6
  go_wp2_with fail
  go_loopw [5, 6, 7] (fun v la i wr => ∃ (k : Nat) (L : List Item) (a : Int), i = .int .i64 k ∧ k ≤ n ∧ k ≤ 12 ∧ la = .int .i64 a ∧ L.length = k ∧ 0 ≤ a ∧ a ≤ 4 * k ∧ OwnI wr w.heap.size v L ∧ Below w.heap.size w wr) (fun _ _ i _ => n - (intOf i).toNat)
  case atStart => exact ⟨0, [], 0, rfl, Nat.zero_le _, Nat.zero_le _, rfl, rfl, by decide, by decide, ⟨fun _ => False, fun _ h => h.elim, Own.nil _ _ _ (fun _ h => h.elim) _ _⟩, Below.refl _ _⟩
  case round =>
    obtain ⟨k, L, la, rfl, hk, hk12, rfl, hlen, hla0, hla1, hown, hbel⟩ := hrel
    have BE := Lib.hid hbel
    have hsz := hbel.size
    have HLL := Lib.hid hlen
    clear hbel
    by_cases hlt : k < n ∧ k < 12
    · obtain ⟨hkn, hk2⟩ := hlt
      obtain ⟨S, hS, hown⟩ := hown
      obtain ⟨b, off, x, A1, n1, c1, A2, n2, c2, rfl, hbS, hx, hxl, s1, p1, q1, s2, p2, q2, c0, c3, c4⟩ := HH.out.item hkn (fun p hp => BE.out.cell hp)
      have hd1 : decide ((k : Int) < (n : Int)) = true := decide_eq_true (by omega)
      have hd2 : decide ((k : Int) < 12) = true := decide_eq_true (by omega)
      have hkm : (k : Int) < (n : Int) := by omega
      have hk0 : (0 : Int) ≤ (k : Int) := by omega
      have S1 := Lib.hid (s1.more hsz)
      have S2 := Lib.hid (s2.more hsz)
      have HCK := Lib.hid (show ∀ W, Below wr.heap.size wr W → W.cell? ⟨b, off + k * 3, none⟩ = some (.int .i64 x.lsn) ∧ W.cell? ⟨b, off + k * 3 + 1, none⟩ = some (.slice A1 n1 c1) ∧ W.cell? ⟨b, off + k * 3 + 2, none⟩ = some (.slice A2 n2 c2) from fun W hb => ⟨(hb.cell (p := ⟨b, off + k * 3, none⟩) (Nat.lt_of_lt_of_le hbS hsz)).trans c0, (hb.cell (p := ⟨b, off + k * 3 + 1, none⟩) (Nat.lt_of_lt_of_le hbS hsz)).trans c3, (hb.cell (p := ⟨b, off + k * 3 + 2, none⟩) (Nat.lt_of_lt_of_le hbS hsz)).trans c4⟩)
      have HS := Lib.hid hS
      have OW := Lib.hid hown
      have hLl : L.length ≤ 12 := by omega
      clear hx s1 s2 hS hown hlen
      by_cases hg : 100 < n1 ∨ 300 < n2
      · have HD := Lib.hid (show (decide (100 < n1) || decide (300 < n2)) = true by simp; omega)
        clear hg
        go_wp2_with (first
          | (go_at_call 14; (with_reducible refine (great16_any x A1 n1 c1 A2 n2 c2 _).mono ?_); rintro e w1 ⟨rfl, bel1⟩; rw [HD.out]; have B1 := Lib.hid (below_next BE.out bel1); clear bel1)
          | (go_at_call 15; (with_reducible refine (awake16 _).mono ?_); rintro e w2 ⟨rfl, bel2⟩; have B2 := Lib.hid (below_next B1.out bel2); clear bel2)
          | fail)
        go_ret
        exact ⟨rfl, B2.out⟩
      · have HD := Lib.hid (show (decide (100 < n1) || decide (300 < n2)) = false by simp; omega)
        clear hg
        obtain ⟨y, hy⟩ : ∃ y, y = someI la x := ⟨_, rfl⟩
        have HY := Lib.hid hy
        have hmay := someI_may la x hla0 (by omega)
        have hlr := playLsn_range la x
        have hyl : y.lsn = playLsn la x := by rw [hy]; rfl
        rw [← hyl] at hlr
        have HYL := Lib.hid (show I64 y.lsn by unfold I64; omega)
        obtain ⟨q, hq⟩ : ∃ q, q = modOf nn 5 := ⟨_, rfl⟩
        have HQ := Lib.hid hq
        clear hy hmay hyl hq
        go_upto_region 9 with (first
          | (go_at_call 14; (with_reducible refine (great16_any x A1 n1 c1 A2 n2 c2 _).mono ?_); rintro e w0 ⟨rfl, bel0⟩; rw [HD.out]; obtain ⟨c0, c3, c4⟩ := HCK.out w0 bel0; have S01 := Lib.hid (S1.out.afterB bel0); have S02 := Lib.hid (S2.out.afterB bel0); have BE0 := Lib.hid bel0; clear bel0)
          | (go_at_call 16; (with_reducible refine (some_any x A1 n1 c1 A2 n2 c2 la w0 S01.out S02.out hla0 (by omega)).mono ?_); rintro e w1 ⟨Ay, ny, cy, By, my, dy, rfl, sy, ly, my1, sy2, ly2, my2, bel1⟩; rw [← HY.out] at sy sy2 ⊢; have B1 := Lib.hid (below_next BE0.out bel1); have SY := Lib.hid (sy.weak (S' := fun b => wr.heap.size ≤ b ∧ b < w1.heap.size) (fun b hb => ⟨Nat.le_trans BE0.out.size hb.1, hb.2⟩)); have SY2 := Lib.hid (sy2.weak (S' := fun b => wr.heap.size ≤ b ∧ b < w1.heap.size) (fun b hb => ⟨Nat.le_trans BE0.out.size hb.1, hb.2⟩)); clear sy sy2 bel1)
          | fail)
        obtain ⟨V, hV⟩ : ∃ V, V = w1.alloc (.cells #[.int .i64 y.lsn, .slice Ay ny cy, .slice By my dy] 25) := ⟨_, rfl⟩
        obtain ⟨T, hT⟩ : ∃ T, T = w1.heap.size := ⟨_, rfl⟩
        have hs1 : wr.heap.size ≤ T := by rw [hT]; exact B1.out.size
        have KT := Lib.hid (show Blk V T [.int .i64 y.lsn, .slice Ay ny cy, .slice By my dy] by rw [hV, hT]; exact Blk.new rfl rfl)
        have BV := Lib.hid (show Below wr.heap.size wr V by rw [hV]; exact below_allocB B1.out _)
        have hTV : T < V.heap.size := KT.out.lt
        have REL := Lib.hid (show itemRep.rel V (fun b => wr.heap.size ≤ b ∧ b < T) y [.int .i64 y.lsn, .slice Ay ny cy, .slice By my dy] by rw [hV, hT]; exact itemRep.keep (w := w1) (S := fun b => wr.heap.size ≤ b ∧ b < w1.heap.size) ⟨_, _, rfl, HYL.out, ⟨Ay, ny, cy, rfl, SY.out, ly, my1⟩, ⟨By, my, dy, rfl, SY2.out, ly2, my2⟩⟩ (fun p hp => ((Below.refl w1.heap.size w1).alloc (Nat.le_refl _) _).cell hp.2))
        rw [← hV, ← hT]
        clear hV hT c0 c3 c4
        obtain ⟨t0, t1, t2, tz⟩ := KT.out.c3
        have hqd : (q == 4) = false ∨ ((q == 4) = true ∧ ((k : Int) == 3) = false) ∨ ((q == 4) = true ∧ ((k : Int) == 3) = true) := by
          cases q == 4 <;> cases (k : Int) == 3 <;> simp
        have goal_of : True := trivial
        rcases hqd with hqd | ⟨hqd, hqk⟩ | ⟨hqd, hqk⟩
        · have BVX := Lib.hid BV.out
          have RELX := Lib.hid REL.out
          have OW1 := Lib.hid (OwnI.next (W := V.alloc (.cells #[.int .i64 y.lsn, .slice Ay ny cy, .slice By my dy] 25)) (B := T) HS.out OW.out hs1 (BVX.out.alloc BVX.out.size _) (by simp; omega))
          have BW5 := Lib.hid (show Below w.heap.size w (V.alloc (.cells #[.int .i64 y.lsn, .slice Ay ny cy, .slice By my dy] 25)) from (below_next BE.out BVX.out).alloc (Nat.le_trans BE.out.size BVX.out.size) _)
          have REL2 := Lib.hid (show itemRep.rel (V.alloc (.cells #[.int .i64 y.lsn, .slice Ay ny cy, .slice By my dy] 25)) (fun b => S b ∨ (wr.heap.size ≤ b ∧ b < T)) y [.int .i64 y.lsn, .slice Ay ny cy, .slice By my dy] from itemRep.weak (itemRep.keep RELX.out (fun p hp => ((Below.refl (V).heap.size (V)).alloc (Nat.le_refl _) _).cell (by have := hp.2; simp; omega))) (fun b hb => .inr hb))
          go_wp2_with (first
            | (go_at_call 17; (with_reducible refine (mod_any nn 5 _ (by omega) (by omega)).mono ?_); rintro e w' ⟨rfl, rfl⟩; rw [← HQ.out])
            | (at_builtin; refine wpList_append_Own _ rfl _ _ 34 rfl w.heap.size 25 i0 _ 56 Try.underlying34 hi hz0 hz1 hz2 rfl (R := itemRep) (S := fun b => S b ∨ (wr.heap.size ≤ b ∧ b < T)) (l := L) (l' := [y]) u5 rfl OW1.out _ 1 1 rfl ?_ (by simp only [maxLen]; omega) (by omega) (by omega) (by simp; omega) ?_; exact Src.newAt (cs := [.int .i64 y.lsn, .slice Ay ny cy, .slice By my dy]) (by simp) REL2.out; intro v6 w6 own6 gr6 at6; have OW6 := Lib.hid own6; have BW6 := Lib.hid ((BW5.out).grown gr6 (by simp; omega) (fun g hg => OW1.out.row_ge hg)); clear own6 gr6 at6)
            | fail)
          go_roundw
          case rel => exact ⟨k + 1, L ++ [y], _, by go_num, by omega, by omega, rfl, by rw [List.length_append, HLL.out]; rfl, by omega, by omega, ⟨_, fun b hb => hb.elim (HS.out b) (fun hb => by omega), OW6.out⟩, BW6.out⟩
          case measure => simp [intOf]; omega
        · have BVX := Lib.hid BV.out
          have RELX := Lib.hid REL.out
          have OW1 := Lib.hid (OwnI.next (W := V.alloc (.cells #[.int .i64 y.lsn, .slice Ay ny cy, .slice By my dy] 25)) (B := T) HS.out OW.out hs1 (BVX.out.alloc BVX.out.size _) (by simp; omega))
          have BW5 := Lib.hid (show Below w.heap.size w (V.alloc (.cells #[.int .i64 y.lsn, .slice Ay ny cy, .slice By my dy] 25)) from (below_next BE.out BVX.out).alloc (Nat.le_trans BE.out.size BVX.out.size) _)
          have REL2 := Lib.hid (show itemRep.rel (V.alloc (.cells #[.int .i64 y.lsn, .slice Ay ny cy, .slice By my dy] 25)) (fun b => S b ∨ (wr.heap.size ≤ b ∧ b < T)) y [.int .i64 y.lsn, .slice Ay ny cy, .slice By my dy] from itemRep.weak (itemRep.keep RELX.out (fun p hp => ((Below.refl (V).heap.size (V)).alloc (Nat.le_refl _) _).cell (by have := hp.2; simp; omega))) (fun b hb => .inr hb))
          go_wp2_with (first
            | (go_at_call 17; (with_reducible refine (mod_any nn 5 _ (by omega) (by omega)).mono ?_); rintro e w' ⟨rfl, rfl⟩; rw [← HQ.out])
            | (at_builtin; refine wpList_append_Own _ rfl _ _ 34 rfl w.heap.size 25 i0 _ 56 Try.underlying34 hi hz0 hz1 hz2 rfl (R := itemRep) (S := fun b => S b ∨ (wr.heap.size ≤ b ∧ b < T)) (l := L) (l' := [y]) u5 rfl OW1.out _ 1 1 rfl ?_ (by simp only [maxLen]; omega) (by omega) (by omega) (by simp; omega) ?_; exact Src.newAt (cs := [.int .i64 y.lsn, .slice Ay ny cy, .slice By my dy]) (by simp) REL2.out; intro v6 w6 own6 gr6 at6; have OW6 := Lib.hid own6; have BW6 := Lib.hid ((BW5.out).grown gr6 (by simp; omega) (fun g hg => OW1.out.row_ge hg)); clear own6 gr6 at6)
            | fail)
          go_roundw
          case rel => exact ⟨k + 1, L ++ [y], _, by go_num, by omega, by omega, rfl, by rw [List.length_append, HLL.out]; rfl, by omega, by omega, ⟨_, fun b hb => hb.elim (HS.out b) (fun hb => by omega), OW6.out⟩, BW6.out⟩
          case measure => simp [intOf]; omega
        · by_cases hml : la < 1
          · have hmd : decide (la < 1) = true := decide_eq_true hml
            have hmd2 : decide (1 < la) = false := decide_eq_false (by omega)
            have hmd3 : la ≤ 1 := by omega
            have BVX := Lib.hid (show Below wr.heap.size wr (((V.setCell ⟨T, 0, none⟩ (.int .i64 1)).setCell ⟨T, 1, none⟩ (.slice none 0 0)).setCell ⟨T, 2, none⟩ (.slice none 0 0)) from ((BV.out.setCell (p := ⟨T, 0, none⟩) hs1 _).setCell (p := ⟨T, 1, none⟩) hs1 _).setCell (p := ⟨T, 2, none⟩) hs1 _)
            have RELX := Lib.hid (show itemRep.rel (((V.setCell ⟨T, 0, none⟩ (.int .i64 1)).setCell ⟨T, 1, none⟩ (.slice none 0 0)).setCell ⟨T, 2, none⟩ (.slice none 0 0)) (fun b => wr.heap.size ≤ b ∧ b < T) ⟨1, [], []⟩ [.int .i64 1, .slice none 0 0, .slice none 0 0] from item_rel0 (by unfold I64; omega))
            have OW1 := Lib.hid (OwnI.next (W := (((V.setCell ⟨T, 0, none⟩ (.int .i64 1)).setCell ⟨T, 1, none⟩ (.slice none 0 0)).setCell ⟨T, 2, none⟩ (.slice none 0 0)).alloc (.cells #[.int .i64 1, .slice none 0 0, .slice none 0 0] 25)) (B := T) HS.out OW.out hs1 (BVX.out.alloc BVX.out.size _) (by simp; omega))
            have BW5 := Lib.hid (show Below w.heap.size w ((((V.setCell ⟨T, 0, none⟩ (.int .i64 1)).setCell ⟨T, 1, none⟩ (.slice none 0 0)).setCell ⟨T, 2, none⟩ (.slice none 0 0)).alloc (.cells #[.int .i64 1, .slice none 0 0, .slice none 0 0] 25)) from (below_next BE.out BVX.out).alloc (Nat.le_trans BE.out.size BVX.out.size) _)
            have REL2 := Lib.hid (show itemRep.rel ((((V.setCell ⟨T, 0, none⟩ (.int .i64 1)).setCell ⟨T, 1, none⟩ (.slice none 0 0)).setCell ⟨T, 2, none⟩ (.slice none 0 0)).alloc (.cells #[.int .i64 1, .slice none 0 0, .slice none 0 0] 25)) (fun b => S b ∨ (wr.heap.size ≤ b ∧ b < T)) (⟨1, [], []⟩ : Item) [.int .i64 1, .slice none 0 0, .slice none 0 0] from itemRep.weak (itemRep.keep RELX.out (fun p hp => ((Below.refl ((((V.setCell ⟨T, 0, none⟩ (.int .i64 1)).setCell ⟨T, 1, none⟩ (.slice none 0 0)).setCell ⟨T, 2, none⟩ (.slice none 0 0))).heap.size ((((V.setCell ⟨T, 0, none⟩ (.int .i64 1)).setCell ⟨T, 1, none⟩ (.slice none 0 0)).setCell ⟨T, 2, none⟩ (.slice none 0 0)))).alloc (Nat.le_refl _) _).cell (by have := hp.2; simp; omega))) (fun b hb => .inr hb))
            go_wp2_with (first
              | (go_at_call 17; (with_reducible refine (mod_any nn 5 _ (by omega) (by omega)).mono ?_); rintro e w' ⟨rfl, rfl⟩; rw [← HQ.out])
              | (at_builtin; refine wpList_append_Own _ rfl _ _ 34 rfl w.heap.size 25 i0 _ 56 Try.underlying34 hi hz0 hz1 hz2 rfl (R := itemRep) (S := fun b => S b ∨ (wr.heap.size ≤ b ∧ b < T)) (l := L) (l' := [(⟨1, [], []⟩ : Item)]) u5 rfl OW1.out _ 1 1 rfl ?_ (by simp only [maxLen]; omega) (by omega) (by omega) (by simp; omega) ?_; exact Src.newAt (cs := [.int .i64 1, .slice none 0 0, .slice none 0 0]) (by simp) REL2.out; intro v6 w6 own6 gr6 at6; have OW6 := Lib.hid own6; have BW6 := Lib.hid ((BW5.out).grown gr6 (by simp; omega) (fun g hg => OW1.out.row_ge hg)); clear own6 gr6 at6)
              | fail)
            go_roundw
            case rel => exact ⟨k + 1, L ++ [(⟨1, [], []⟩ : Item)], _, by go_num, by omega, by omega, rfl, by rw [List.length_append, HLL.out]; rfl, by omega, by omega, ⟨_, fun b hb => hb.elim (HS.out b) (fun hb => by omega), OW6.out⟩, BW6.out⟩
            case measure => simp [intOf]; omega
          · have hmd : decide (la < 1) = false := decide_eq_false hml
            have hmd3 : 1 ≤ la := by omega
            have BVX := Lib.hid (show Below wr.heap.size wr (((V.setCell ⟨T, 0, none⟩ (.int .i64 la)).setCell ⟨T, 1, none⟩ (.slice none 0 0)).setCell ⟨T, 2, none⟩ (.slice none 0 0)) from ((BV.out.setCell (p := ⟨T, 0, none⟩) hs1 _).setCell (p := ⟨T, 1, none⟩) hs1 _).setCell (p := ⟨T, 2, none⟩) hs1 _)
            have RELX := Lib.hid (show itemRep.rel (((V.setCell ⟨T, 0, none⟩ (.int .i64 la)).setCell ⟨T, 1, none⟩ (.slice none 0 0)).setCell ⟨T, 2, none⟩ (.slice none 0 0)) (fun b => wr.heap.size ≤ b ∧ b < T) ⟨la, [], []⟩ [.int .i64 la, .slice none 0 0, .slice none 0 0] from item_rel0 (by unfold I64; omega))
            have OW1 := Lib.hid (OwnI.next (W := (((V.setCell ⟨T, 0, none⟩ (.int .i64 la)).setCell ⟨T, 1, none⟩ (.slice none 0 0)).setCell ⟨T, 2, none⟩ (.slice none 0 0)).alloc (.cells #[.int .i64 la, .slice none 0 0, .slice none 0 0] 25)) (B := T) HS.out OW.out hs1 (BVX.out.alloc BVX.out.size _) (by simp; omega))
            have BW5 := Lib.hid (show Below w.heap.size w ((((V.setCell ⟨T, 0, none⟩ (.int .i64 la)).setCell ⟨T, 1, none⟩ (.slice none 0 0)).setCell ⟨T, 2, none⟩ (.slice none 0 0)).alloc (.cells #[.int .i64 la, .slice none 0 0, .slice none 0 0] 25)) from (below_next BE.out BVX.out).alloc (Nat.le_trans BE.out.size BVX.out.size) _)
            have REL2 := Lib.hid (show itemRep.rel ((((V.setCell ⟨T, 0, none⟩ (.int .i64 la)).setCell ⟨T, 1, none⟩ (.slice none 0 0)).setCell ⟨T, 2, none⟩ (.slice none 0 0)).alloc (.cells #[.int .i64 la, .slice none 0 0, .slice none 0 0] 25)) (fun b => S b ∨ (wr.heap.size ≤ b ∧ b < T)) (⟨la, [], []⟩ : Item) [.int .i64 la, .slice none 0 0, .slice none 0 0] from itemRep.weak (itemRep.keep RELX.out (fun p hp => ((Below.refl ((((V.setCell ⟨T, 0, none⟩ (.int .i64 la)).setCell ⟨T, 1, none⟩ (.slice none 0 0)).setCell ⟨T, 2, none⟩ (.slice none 0 0))).heap.size ((((V.setCell ⟨T, 0, none⟩ (.int .i64 la)).setCell ⟨T, 1, none⟩ (.slice none 0 0)).setCell ⟨T, 2, none⟩ (.slice none 0 0)))).alloc (Nat.le_refl _) _).cell (by have := hp.2; simp; omega))) (fun b hb => .inr hb))
            go_wp2_with (first
              | (go_at_call 17; (with_reducible refine (mod_any nn 5 _ (by omega) (by omega)).mono ?_); rintro e w' ⟨rfl, rfl⟩; rw [← HQ.out])
              | (at_builtin; refine wpList_append_Own _ rfl _ _ 34 rfl w.heap.size 25 i0 _ 56 Try.underlying34 hi hz0 hz1 hz2 rfl (R := itemRep) (S := fun b => S b ∨ (wr.heap.size ≤ b ∧ b < T)) (l := L) (l' := [(⟨la, [], []⟩ : Item)]) u5 rfl OW1.out _ 1 1 rfl ?_ (by simp only [maxLen]; omega) (by omega) (by omega) (by simp; omega) ?_; exact Src.newAt (cs := [.int .i64 la, .slice none 0 0, .slice none 0 0]) (by simp) REL2.out; intro v6 w6 own6 gr6 at6; have OW6 := Lib.hid own6; have BW6 := Lib.hid ((BW5.out).grown gr6 (by simp; omega) (fun g hg => OW1.out.row_ge hg)); clear own6 gr6 at6)
              | fail)
            go_roundw
            case rel => exact ⟨k + 1, L ++ [(⟨la, [], []⟩ : Item)], _, by go_num, by omega, by omega, rfl, by rw [List.length_append, HLL.out]; rfl, by omega, by omega, ⟨_, fun b hb => hb.elim (HS.out b) (fun hb => by omega), OW6.out⟩, BW6.out⟩
            case measure => simp [intOf]; omega
    · have hend : n ≤ k ∨ (k < n ∧ k = 12) := by omega
      obtain ⟨AL, cL, rfl, hlc, hcm, slL, hgL⟩ := hown.sl
      rw [HLL.out] at hlc slL ⊢
      have SL := Lib.hid slL
      obtain ⟨M, hM⟩ : ∃ M, M = min n 12 := ⟨_, rfl⟩
      have hMn : M ≤ n := by omega
      have RW := Lib.hid ((HH.out.cutTo (hi := M) hMn).afterB BE.out)
      have hM12 : M ≤ 12 := by omega
      have hMc : (M : Int) ≤ (c : Int) := by omega
      have hM0 : (0 : Int) ≤ (M : Int) := by omega
      obtain ⟨R, hR⟩ : ∃ R, R = l.take M := ⟨_, rfl⟩
      rw [← hR] at RW
      have JN := Lib.hid (joinV_len L)
      have JR := Lib.hid (joinV_len R)
      obtain ⟨X, hX⟩ : ∃ X, X = joinV L := ⟨_, rfl⟩
      obtain ⟨Y, hY⟩ : ∃ Y, Y = joinV R := ⟨_, rfl⟩
      rw [← hX] at JN
      rw [← hY] at JR
      have HX := Lib.hid hX
      have HY := Lib.hid hY
      have hd : (decide ((k : Int) < (n : Int)) = false ∧ decide (12 < (n : Int)) = false ∧ M = n) ∨ (decide ((k : Int) < (n : Int)) = true ∧ decide ((k : Int) < 12) = false ∧ decide (12 < (n : Int)) = true ∧ M = 12) := by
        rcases hend with h | ⟨h1, h2⟩
        · left; exact ⟨decide_eq_false (by omega), decide_eq_false (by omega), by omega⟩
        · right; exact ⟨decide_eq_true (by omega), decide_eq_false (by omega), decide_eq_true (by omega), by omega⟩
      clear hend hlt slL hgL hown hlen hX hY hR hM
      rcases hd with ⟨hd, hd2, hMM⟩ | ⟨hd, hd2, hd3, hMM⟩
      · subst hMM
        have hdn := hd
        simp only [Int.ofNat_lt] at hdn
        go_wp2_with (first
          | (go_at_call 28; (with_reducible refine (batJoin_any (AL) (k) (cL) L wr SL.out (by omega)).mono ?_); rintro e w1 ⟨A1, n1, c1, E1, m1, d1, rfl, s1, l1, k1, s1', l1', k1', bel1⟩; rw [← HX.out] at s1 s1' ⊢; have bw1 : Below w1.heap.size w1 (w1.alloc (.cells #[.int .i64 X.lsn, .slice A1 n1 c1, .slice E1 m1 d1] 25)) := (Below.refl _ _).alloc (Nat.le_refl _) _; have L1 := Lib.hid (show Lies (w1.alloc (.cells #[.int .i64 X.lsn, .slice A1 n1 c1, .slice E1 m1 d1] 25)) X A1 n1 c1 E1 m1 d1 from (⟨s1, l1, k1, s1', l1', k1'⟩ : Lies w1 X A1 n1 c1 E1 m1 d1).after bw1); have T1 := Lib.hid (Blk.new (w := w1) (cs := #[.int .i64 X.lsn, .slice A1 n1 c1, .slice E1 m1 d1]) (t := 25) rfl rfl); have B1 := Lib.hid (below_next (below_next BE.out bel1) bw1); have SL1 := Lib.hid ((SL.out.afterB bel1).afterB bw1); have RW1 := Lib.hid ((RW.out.afterB bel1).afterB bw1); clear s1 s1' bel1)
          | (go_at_call 29; (with_reducible refine (refJoin_any (AL) (k) (cL) L _ SL1.out (by omega)).mono ?_); rintro e w2 ⟨A2, n2, c2, E2, m2, d2, rfl, s2, l2, k2, s2', l2', k2', bel2⟩; rw [← HX.out] at s2 s2' ⊢; have bw2 : Below w2.heap.size w2 (w2.alloc (.cells #[.int .i64 X.lsn, .slice A2 n2 c2, .slice E2 m2 d2] 25)) := (Below.refl _ _).alloc (Nat.le_refl _) _; have L2 := Lib.hid (show Lies (w2.alloc (.cells #[.int .i64 X.lsn, .slice A2 n2 c2, .slice E2 m2 d2] 25)) X A2 n2 c2 E2 m2 d2 from (⟨s2, l2, k2, s2', l2', k2'⟩ : Lies w2 X A2 n2 c2 E2 m2 d2).after bw2); have T2 := Lib.hid (Blk.new (w := w2) (cs := #[.int .i64 X.lsn, .slice A2 n2 c2, .slice E2 m2 d2]) (t := 25) rfl rfl); have B2 := Lib.hid (below_next (below_next B1.out bel2) bw2); have RW2 := Lib.hid ((RW1.out.afterB bel2).afterB bw2); have L12 := Lib.hid ((L1.out.after bel2).after bw2); have T12 := Lib.hid ((T1.out.after bel2).after bw2); clear s2 s2' bel2)
          | (go_at_call 28; (with_reducible refine (batJoin_any (A) (M) (c) R _ RW2.out (by omega)).mono ?_); rintro e w3 ⟨A3, n3, c3, E3, m3, d3, rfl, s3, l3, k3, s3', l3', k3', bel3⟩; rw [← HY.out] at s3 s3' ⊢; have bw3 : Below w3.heap.size w3 (w3.alloc (.cells #[.int .i64 Y.lsn, .slice A3 n3 c3, .slice E3 m3 d3] 25)) := (Below.refl _ _).alloc (Nat.le_refl _) _; have L3 := Lib.hid (show Lies (w3.alloc (.cells #[.int .i64 Y.lsn, .slice A3 n3 c3, .slice E3 m3 d3] 25)) Y A3 n3 c3 E3 m3 d3 from (⟨s3, l3, k3, s3', l3', k3'⟩ : Lies w3 Y A3 n3 c3 E3 m3 d3).after bw3); have T3 := Lib.hid (Blk.new (w := w3) (cs := #[.int .i64 Y.lsn, .slice A3 n3 c3, .slice E3 m3 d3]) (t := 25) rfl rfl); have B3 := Lib.hid (below_next (below_next B2.out bel3) bw3); have RW3 := Lib.hid ((RW2.out.afterB bel3).afterB bw3); have L13 := Lib.hid ((L12.out.after bel3).after bw3); have T13 := Lib.hid ((T12.out.after bel3).after bw3); have L23 := Lib.hid ((L2.out.after bel3).after bw3); have T23 := Lib.hid ((T2.out.after bel3).after bw3); clear s3 s3' bel3)
          | (go_at_call 29; (with_reducible refine (refJoin_any (A) (M) (c) R _ RW3.out (by omega)).mono ?_); rintro e w4 ⟨A4, n4, c4, E4, m4, d4, rfl, s4, l4, k4, s4', l4', k4', bel4⟩; rw [← HY.out] at s4 s4' ⊢; have bw4 : Below w4.heap.size w4 (w4.alloc (.cells #[.int .i64 Y.lsn, .slice A4 n4 c4, .slice E4 m4 d4] 25)) := (Below.refl _ _).alloc (Nat.le_refl _) _; have L4 := Lib.hid (show Lies (w4.alloc (.cells #[.int .i64 Y.lsn, .slice A4 n4 c4, .slice E4 m4 d4] 25)) Y A4 n4 c4 E4 m4 d4 from (⟨s4, l4, k4, s4', l4', k4'⟩ : Lies w4 Y A4 n4 c4 E4 m4 d4).after bw4); have T4 := Lib.hid (Blk.new (w := w4) (cs := #[.int .i64 Y.lsn, .slice A4 n4 c4, .slice E4 m4 d4]) (t := 25) rfl rfl); have B4 := Lib.hid (below_next (below_next B3.out bel4) bw4); have L14 := Lib.hid ((L13.out.after bel4).after bw4); have T14 := Lib.hid ((T13.out.after bel4).after bw4); have L24 := Lib.hid ((L23.out.after bel4).after bw4); have T24 := Lib.hid ((T23.out.after bel4).after bw4); have L34 := Lib.hid ((L3.out.after bel4).after bw4); have T34 := Lib.hid ((T3.out.after bel4).after bw4); clear s4 s4' bel4)
          | (go_at_call 15; (with_reducible refine (awake16 _).mono ?_); rintro e w5 ⟨rfl, bel5⟩; have B5 := Lib.hid (below_next B4.out bel5); have L15 := Lib.hid (L14.out.after bel5); have L25 := Lib.hid (L24.out.after bel5); have L35 := Lib.hid (L34.out.after bel5); have L45 := Lib.hid (L4.out.after bel5); have T35 := Lib.hid (T34.out.after bel5); have T45 := Lib.hid (T4.out.after bel5); obtain ⟨x0, x1, x2, xz⟩ := (T14.out.after bel5).c3; obtain ⟨y0, y1, y2, yz⟩ := (T24.out.after bel5).c3; obtain ⟨z0, z1, z2, zz⟩ := T35.out.c3; obtain ⟨u0, u1, u2, uz⟩ := T45.out.c3; clear bel5)
          | (go_at_call 25; (with_reducible refine (item_any X.lsn A1 E1 A2 E2 n1 m1 c1 d1 n2 m2 c2 d2 X.ops X.notes _ L15.out.s L25.out.s L15.out.s2 L25.out.s2 (L15.out.small JN.out).1 (L15.out.small JN.out).2).mono ?_); rintro e w6 ⟨rfl, bel6⟩; have B6 := Lib.hid (below_next B5.out bel6); have L36 := Lib.hid (L35.out.after bel6); have L46 := Lib.hid (L45.out.after bel6); obtain ⟨z0, z1, z2, zz⟩ := (T35.out.after bel6).c3; obtain ⟨u0, u1, u2, uz⟩ := (T45.out.after bel6).c3; clear bel6)
          | (go_at_call 25; (with_reducible refine (item_any Y.lsn A3 E3 A4 E4 n3 m3 c3 d3 n4 m4 c4 d4 Y.ops Y.notes _ L36.out.s L46.out.s L36.out.s2 L46.out.s2 (L36.out.small JR.out).1 (L36.out.small JR.out).2).mono ?_); rintro e w7 ⟨rfl, bel7⟩; have B7 := Lib.hid (below_next B6.out bel7); clear bel7)
          | fail)
        go_ret
        exact ⟨rfl, B7.out⟩
      · subst hMM
        have hdn := hd
        simp only [Int.ofNat_lt] at hdn
        have hn12 : 12 < n := (by have := of_decide_eq_true hd3; omega)
        have hd4 : decide ((n : Int) < 12) = false := decide_eq_false (by omega)
        have hd5 : decide ((n : Int) ≤ 12) = false := decide_eq_false (by omega)
        have hn13 : (12 : Int) < (n : Int) := by omega
        go_wp2_with (first
          | (go_at_call 28; (with_reducible refine (batJoin_any (AL) (k) (cL) L wr SL.out (by omega)).mono ?_); rintro e w1 ⟨A1, n1, c1, E1, m1, d1, rfl, s1, l1, k1, s1', l1', k1', bel1⟩; rw [← HX.out] at s1 s1' ⊢; have bw1 : Below w1.heap.size w1 (w1.alloc (.cells #[.int .i64 X.lsn, .slice A1 n1 c1, .slice E1 m1 d1] 25)) := (Below.refl _ _).alloc (Nat.le_refl _) _; have L1 := Lib.hid (show Lies (w1.alloc (.cells #[.int .i64 X.lsn, .slice A1 n1 c1, .slice E1 m1 d1] 25)) X A1 n1 c1 E1 m1 d1 from (⟨s1, l1, k1, s1', l1', k1'⟩ : Lies w1 X A1 n1 c1 E1 m1 d1).after bw1); have T1 := Lib.hid (Blk.new (w := w1) (cs := #[.int .i64 X.lsn, .slice A1 n1 c1, .slice E1 m1 d1]) (t := 25) rfl rfl); have B1 := Lib.hid (below_next (below_next BE.out bel1) bw1); have SL1 := Lib.hid ((SL.out.afterB bel1).afterB bw1); have RW1 := Lib.hid ((RW.out.afterB bel1).afterB bw1); clear s1 s1' bel1)
          | (go_at_call 29; (with_reducible refine (refJoin_any (AL) (k) (cL) L _ SL1.out (by omega)).mono ?_); rintro e w2 ⟨A2, n2, c2, E2, m2, d2, rfl, s2, l2, k2, s2', l2', k2', bel2⟩; rw [← HX.out] at s2 s2' ⊢; have bw2 : Below w2.heap.size w2 (w2.alloc (.cells #[.int .i64 X.lsn, .slice A2 n2 c2, .slice E2 m2 d2] 25)) := (Below.refl _ _).alloc (Nat.le_refl _) _; have L2 := Lib.hid (show Lies (w2.alloc (.cells #[.int .i64 X.lsn, .slice A2 n2 c2, .slice E2 m2 d2] 25)) X A2 n2 c2 E2 m2 d2 from (⟨s2, l2, k2, s2', l2', k2'⟩ : Lies w2 X A2 n2 c2 E2 m2 d2).after bw2); have T2 := Lib.hid (Blk.new (w := w2) (cs := #[.int .i64 X.lsn, .slice A2 n2 c2, .slice E2 m2 d2]) (t := 25) rfl rfl); have B2 := Lib.hid (below_next (below_next B1.out bel2) bw2); have RW2 := Lib.hid ((RW1.out.afterB bel2).afterB bw2); have L12 := Lib.hid ((L1.out.after bel2).after bw2); have T12 := Lib.hid ((T1.out.after bel2).after bw2); clear s2 s2' bel2)
          | (go_at_call 28; (with_reducible refine (batJoin_any (A) (12) (c) R _ RW2.out (by omega)).mono ?_); rintro e w3 ⟨A3, n3, c3, E3, m3, d3, rfl, s3, l3, k3, s3', l3', k3', bel3⟩; rw [← HY.out] at s3 s3' ⊢; have bw3 : Below w3.heap.size w3 (w3.alloc (.cells #[.int .i64 Y.lsn, .slice A3 n3 c3, .slice E3 m3 d3] 25)) := (Below.refl _ _).alloc (Nat.le_refl _) _; have L3 := Lib.hid (show Lies (w3.alloc (.cells #[.int .i64 Y.lsn, .slice A3 n3 c3, .slice E3 m3 d3] 25)) Y A3 n3 c3 E3 m3 d3 from (⟨s3, l3, k3, s3', l3', k3'⟩ : Lies w3 Y A3 n3 c3 E3 m3 d3).after bw3); have T3 := Lib.hid (Blk.new (w := w3) (cs := #[.int .i64 Y.lsn, .slice A3 n3 c3, .slice E3 m3 d3]) (t := 25) rfl rfl); have B3 := Lib.hid (below_next (below_next B2.out bel3) bw3); have RW3 := Lib.hid ((RW2.out.afterB bel3).afterB bw3); have L13 := Lib.hid ((L12.out.after bel3).after bw3); have T13 := Lib.hid ((T12.out.after bel3).after bw3); have L23 := Lib.hid ((L2.out.after bel3).after bw3); have T23 := Lib.hid ((T2.out.after bel3).after bw3); clear s3 s3' bel3)
          | (go_at_call 29; (with_reducible refine (refJoin_any (A) (12) (c) R _ RW3.out (by omega)).mono ?_); rintro e w4 ⟨A4, n4, c4, E4, m4, d4, rfl, s4, l4, k4, s4', l4', k4', bel4⟩; rw [← HY.out] at s4 s4' ⊢; have bw4 : Below w4.heap.size w4 (w4.alloc (.cells #[.int .i64 Y.lsn, .slice A4 n4 c4, .slice E4 m4 d4] 25)) := (Below.refl _ _).alloc (Nat.le_refl _) _; have L4 := Lib.hid (show Lies (w4.alloc (.cells #[.int .i64 Y.lsn, .slice A4 n4 c4, .slice E4 m4 d4] 25)) Y A4 n4 c4 E4 m4 d4 from (⟨s4, l4, k4, s4', l4', k4'⟩ : Lies w4 Y A4 n4 c4 E4 m4 d4).after bw4); have T4 := Lib.hid (Blk.new (w := w4) (cs := #[.int .i64 Y.lsn, .slice A4 n4 c4, .slice E4 m4 d4]) (t := 25) rfl rfl); have B4 := Lib.hid (below_next (below_next B3.out bel4) bw4); have L14 := Lib.hid ((L13.out.after bel4).after bw4); have T14 := Lib.hid ((T13.out.after bel4).after bw4); have L24 := Lib.hid ((L23.out.after bel4).after bw4); have T24 := Lib.hid ((T23.out.after bel4).after bw4); have L34 := Lib.hid ((L3.out.after bel4).after bw4); have T34 := Lib.hid ((T3.out.after bel4).after bw4); clear s4 s4' bel4)
          | (go_at_call 15; (with_reducible refine (awake16 _).mono ?_); rintro e w5 ⟨rfl, bel5⟩; have B5 := Lib.hid (below_next B4.out bel5); have L15 := Lib.hid (L14.out.after bel5); have L25 := Lib.hid (L24.out.after bel5); have L35 := Lib.hid (L34.out.after bel5); have L45 := Lib.hid (L4.out.after bel5); have T35 := Lib.hid (T34.out.after bel5); have T45 := Lib.hid (T4.out.after bel5); obtain ⟨x0, x1, x2, xz⟩ := (T14.out.after bel5).c3; obtain ⟨y0, y1, y2, yz⟩ := (T24.out.after bel5).c3; obtain ⟨z0, z1, z2, zz⟩ := T35.out.c3; obtain ⟨u0, u1, u2, uz⟩ := T45.out.c3; clear bel5)
          | (go_at_call 25; (with_reducible refine (item_any X.lsn A1 E1 A2 E2 n1 m1 c1 d1 n2 m2 c2 d2 X.ops X.notes _ L15.out.s L25.out.s L15.out.s2 L25.out.s2 (L15.out.small JN.out).1 (L15.out.small JN.out).2).mono ?_); rintro e w6 ⟨rfl, bel6⟩; have B6 := Lib.hid (below_next B5.out bel6); have L36 := Lib.hid (L35.out.after bel6); have L46 := Lib.hid (L45.out.after bel6); obtain ⟨z0, z1, z2, zz⟩ := (T35.out.after bel6).c3; obtain ⟨u0, u1, u2, uz⟩ := (T45.out.after bel6).c3; clear bel6)
          | (go_at_call 25; (with_reducible refine (item_any Y.lsn A3 E3 A4 E4 n3 m3 c3 d3 n4 m4 c4 d4 Y.ops Y.notes _ L36.out.s L46.out.s L36.out.s2 L46.out.s2 (L36.out.small JR.out).1 (L36.out.small JR.out).2).mono ?_); rintro e w7 ⟨rfl, bel7⟩; have B7 := Lib.hid (below_next B6.out bel7); clear bel7)
          | fail)
        go_ret
        exact ⟨rfl, B7.out⟩
end Go.Proofs.Ytcohheoahdbgmaa
