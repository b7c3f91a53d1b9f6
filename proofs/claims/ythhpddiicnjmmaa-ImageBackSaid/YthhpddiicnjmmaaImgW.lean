/- The walk of the law ImageBack. -/
import Derived.Test.YthhpddiicnjmmaaImg9
import Derived.Test.YthhpddiicnjmmaaMemB
import Derived.Test.YthhpddiicnjmmaaHelpTab
set_option linter.unusedVariables false
set_option linter.unusedSimpArgs false
set_option maxRecDepth 100000
namespace Go.Proofs.Ythhpddiicnjmmaa
open Go.RowKit

theorem rightT_small (T : List (List Row)) : (rightT T).length ≤ 8 ∧ ∀ l ∈ rightT T, l.length ≤ 1000 := by
  have h := mayImg_parts (rightT_may T (k := 0) (by omega) (by omega))
  exact ⟨h.2.2.2.1, fun l hl => (mayRows_parts (h.2.2.2.2 l hl)).1⟩

set_option maxHeartbeats 8000000 in
theorem imageBack_walk (w : World) (lsn : Int) (hl : I64 lsn) (A : Option Addr) (n c : Nat) (T : List (List Row)) (h : IsSl (sliceRep rowRep) w (· < w.heap.size) A n T) (h1 : n ≤ c) (h2 : c ≤ maxLen) (more : Int) (hmore : (Lit.int .u8 more).wf = true) (cut : Int) (hcut : I64 cut) :
    Calls Try.prog 4 #[.int .i64 lsn, .slice A n c, .int .u8 more, .int .i64 cut] w fun e w' => e = .returned (.bool true) ∧ Below w.heap.size w w' := by
  obtain ⟨i0, hi, hz0, hz1, hz2⟩ := info_parts info_byte
  obtain ⟨mb, rfl⟩ : ∃ mb : UInt8, more = (mb.toNat : Int) := by
    simp [Lit.wf, IntKind.min, IntKind.max, IntKind.bits, IntKind.signed] at hmore
    refine ⟨UInt8.ofNat more.toNat, ?_⟩
    rw [UInt8.toNat_ofNat', Nat.mod_eq_of_lt (by omega)]
    omega
  have H := Lib.hid h
  clear h hmore
  have hk := modOf_range lsn 1099511627777 (by omega)
  obtain ⟨k, hk1⟩ : ∃ k, k = modOf lsn 1099511627777 := ⟨_, rfl⟩
  have HK := Lib.hid hk1
  rw [← hk1] at hk
  have hmay := rightT_may T (k := k) hk.1 (by omega)
  obtain ⟨b1, b2, b3, b4, b5⟩ := img_back hmay
  have HE := Lib.hid (show imgE (k, rightT T) = 0 from if_pos hmay)
  have hvl : (imgV (k, rightT T)).length ≤ 400008 := by have := encG_len hmay; omega
  have hv1 : 1 ≤ (imgV (k, rightT T)).length := by omega
  obtain ⟨B, hB⟩ : ∃ B, B = imgV (k, rightT T) := ⟨_, rfl⟩
  rw [← hB] at b1 b2 b4 b5 hvl hv1
  have HB := Lib.hid hB
  obtain ⟨N, hN⟩ : ∃ N, N = B.length := ⟨_, rfl⟩
  rw [← hN] at hvl hv1 b5
  have HN := Lib.hid hN
  have F1 := Lib.hid b1
  have F2 := Lib.hid b2
  have F4 := Lib.hid (b4 mb)
  have hmc := modOf_range cut (N : Int) (by omega)
  obtain ⟨q, hq⟩ := Int.eq_ofNat_of_zero_le hmc.1
  rw [hq] at hmc
  have HQ := Lib.hid hq
  have hqN : q < N := by omega
  have F5 := Lib.hid (b5 q hqN)
  have HS := Lib.hid (rightT_small T)
  have hne : B ≠ [] := by intro e; rw [e] at hN; simp at hN; omega
  have hnz : ((N : Int) == 0) = false := by simp; omega
  clear hk1 hB hN b1 b2 b3 b4 b5 hq hmc hmay
  go_enter Try.func4, Try.ntmps4
  go_wp2_with (first
    | (go_at_call 16; (with_reducible refine (right10_any A n c T _ H.out).mono ?_); rintro e w1 ⟨A1, c1, rfl, s1, l1, m1, bel1⟩; obtain ⟨n1, hn1⟩ : ∃ n1, n1 = (rightT T).length := ⟨_, rfl⟩; rw [← hn1] at s1 l1 ⊢; have HN1 := Lib.hid hn1; have S1 := Lib.hid s1; have B1 := Lib.hid bel1; clear s1 bel1 hn1)
    | (go_at_call 17; (with_reducible refine (big_any lsn 1099511627777 _ (by omega) (by omega)).mono ?_); rintro e w' ⟨rfl, rfl⟩; rw [← HK.out])
    | (go_at_call 13; (with_reducible refine (imgEncode_any k (by unfold I64; omega) A1 n1 c1 (rightT T) w1 S1.out).mono ?_); rintro e w2 ⟨v2, rfl, own2, bel2⟩; rw [HE.out]; rw [← HB.out] at own2; obtain ⟨A2, c2, rfl, l2, m2, sl2⟩ := own2.isSlB; rw [← HN.out] at l2 sl2 ⊢; have SL2 := Lib.hid sl2; have T2 := Lib.hid (S1.out.af bel2); have B2 := Lib.hid (bel_n B1.out bel2); clear own2 bel2 sl2)
    | (go_at_call 12; (with_reducible refine (awake10 _).mono ?_); rintro e w3 ⟨rfl, bel3⟩; have SL3 := Lib.hid (SL2.out.af bel3); have T3 := Lib.hid (T2.out.af bel3); have B3 := Lib.hid (bel_n B2.out bel3); clear bel3)
    | (go_at_call 18; (with_reducible refine (imgDecode_any A2 N c2 B w3 SL3.out l2 m2).mono ?_); rintro e w4 ⟨A4, n4, c4, rfl, s4, l4, m4, bel4⟩; rw [F1.out, F2.out]; rw [F1.out] at s4; have S4 := Lib.hid s4; have SL4 := Lib.hid (SL3.out.af bel4); have T4 := Lib.hid (T3.out.af bel4); have B4 := Lib.hid (bel_n B3.out bel4); have E4 := Lib.hid (show Below w4.heap.size w4 (w4.alloc (.cells #[] 5)) from (Below.refl _ _).alloc (Nat.le_refl _) _); clear s4 bel4)
    | (at_builtin; refine wpList_append_Own _ rfl _ _ 25 rfl w4.heap.size 5 i0 _ 1 Try.underlying25 hi hz0 hz1 hz2 rfl (R := byteRep) (S := fun _ => False) (l := []) (l' := B) (.slice (some ⟨w4.heap.size, 0, none⟩) 0 0) rfl (Own.nil _ _ _ (fun _ h => h.elim) _ _) A2 N c2 rfl (SL4.out.srcF flat_byte E4.out) (by simp [maxLen]; omega) (by simp; omega) (by omega) (by simp) ?_; intro v5 w5 own5 gr5 at5; have bel5 := E4.out.grown gr5 (by simp) (by intro k hk; simp [rowOf] at hk); simp only [List.nil_append] at own5; have B5 := Lib.hid (bel_n B4.out bel5); have SL5 := Lib.hid (SL4.out.af bel5); have T5 := Lib.hid (T4.out.af bel5); have S5 := Lib.hid (S4.out.af bel5); have G5 := Lib.hid bel5; obtain ⟨A5, c5, rfl⟩ := own5.form; rw [← HN.out] at own5 ⊢; have O5 := Lib.hid own5; clear gr5 at5 own5 bel5)
    | (at_builtin; refine wpList_append_Own _ rfl _ _ 25 rfl w4.heap.size 5 i0 _ 1 Try.underlying25 hi hz0 hz1 hz2 rfl (R := byteRep) (S := fun _ => False) (l := B) (l' := [mb]) (.slice A5 N c5) rfl (O5.out.alloc _) _ 1 1 rfl (Src.new (cs := [.int .u8 (mb.toNat : Int)]) ⟨rfl, trivial⟩) (by rw [← HN.out]; simp only [maxLen]; omega) (by rw [← HN.out]; simp; omega) (by omega) (by have := G5.out.size; simp; omega) ?_; intro v6 w6 own6 gr6 at6; have bel6 := (G5.out.alloc (by have := G5.out.size; omega) _).grown gr6 (by have := G5.out.size; simp; omega) (fun k hk => O5.out.row_ge hk); have B6 := Lib.hid (bel_n B4.out bel6); have SL6 := Lib.hid (SL4.out.af bel6); have T6 := Lib.hid (T4.out.af bel6); have S6 := Lib.hid (S4.out.af bel6); obtain ⟨A6, c6, rfl, l6, m6, x6⟩ := own6.isSlB; rw [List.length_append, ← HN.out, List.length_singleton] at l6 x6 ⊢; have X6 := Lib.hid x6; clear own6 bel6 gr6 at6 x6)
    | (go_at_call 18; (with_reducible refine (imgDecode_any A6 (N + 1) c6 (B ++ [mb]) w6 X6.out l6 m6).mono ?_); rintro e w7 ⟨A7, n7, c7, rfl, s7, l7, m7, bel7⟩; rw [F4.out]; have SL7 := Lib.hid (SL6.out.af bel7); have T7 := Lib.hid (T6.out.af bel7); have S7 := Lib.hid (S6.out.af bel7); have B7 := Lib.hid (bel_n B6.out bel7); have X7 := Lib.hid ((SL7.out).cutTo (hi := q) (Nat.le_of_lt hqN)); clear s7 bel7)
    | (go_at_call 19; (with_reducible refine (mod_any cut (N : Int) _ (by omega) (by omega)).mono ?_); rintro e w' ⟨rfl, rfl⟩; rw [HQ.out])
    | (go_at_call 18; (with_reducible refine (imgDecode_any A2 q c2 (B.take q) w7 X7.out (by omega) m2).mono ?_); rintro e w8 ⟨A8, n8, c8, rfl, s8, l8, m8, bel8⟩; rw [F5.out]; have T8 := Lib.hid (T7.out.af bel8); have S8 := Lib.hid (S7.out.af bel8); have B8 := Lib.hid (bel_n B7.out bel8); clear s8 bel8)
    | (go_at_call 20; (with_reducible refine (tables_any A1 A4 n1 n4 c1 c4 (rightT T) w8 T8.out S8.out (by rw [HN1.out]; have := HS.out.1; omega) (fun l hl => by have := HS.out.2 l hl; omega)).mono ?_); rintro e w9 ⟨rfl, bel9⟩; have B9 := Lib.hid (bel_n B8.out bel9); clear bel9)
    | fail)
  go_ret
  exact ⟨rfl, B9.out⟩
end Go.Proofs.Ythhpddiicnjmmaa
