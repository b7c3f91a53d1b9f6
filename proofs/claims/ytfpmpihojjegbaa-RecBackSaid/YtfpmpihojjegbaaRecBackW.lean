/- The walk of RecBack. -/
import Derived.Test.YtfpmpihojjegbaaHelpB2
import Derived.Test.YtfpmpihojjegbaaRecQ
namespace Go.Proofs.Ytfpmpihojjegbaa
open Go.RowKit

set_option linter.unusedVariables false in
set_option maxHeartbeats 2000000 in
theorem recBack_walk (w : World) (A : Option Addr) (n c : Nat) (p : List UInt8) (h : IsSl byteRep w (· < w.heap.size) A n p) (h1 : n ≤ c) (h2 : c ≤ maxLen) (_ : c * 1 ≤ 140737488351232)
    (T : Option Addr) (nt ct : Nat) (t : List UInt8) (ht : IsSl byteRep w (· < w.heap.size) T nt t) (ht1 : nt ≤ ct) (ht2 : ct ≤ maxLen) (htz : ct * 1 ≤ 140737488351232) (cut : Int) (_ : I64 cut) :
    Calls Try.prog 9 #[.slice A n c, .slice T nt ct, .int .i64 cut] w fun e w' => e = .returned (.bool true) ∧ Below w.heap.size w w' := by
  have H := Lib.hid h
  have HL := Lib.hid h.len
  have HT := Lib.hid ht
  have HTL := Lib.hid ht.len
  have hnt : nt ≤ 140737488351232 := by omega
  have hn0 : n ≤ maxLen := by omega
  clear h ht
  by_cases hbig : 5000 < n
  · go_enter Try.func9, Try.ntmps9
    go_wp2_with (first
      | (go_at_call 30; (with_reducible refine (awake03_any _).mono ?_); rintro e w1 ⟨rfl, bel1⟩)
      | fail)
    go_ret
    exact ⟨rfl, bel1⟩
  · have hn : n ≤ 5000 := by omega
    clear hbig
    obtain ⟨i0, hi, hz0, hz1, hz2⟩ := info_parts info_byte
    have HE := Lib.hid (show putE p = 0 by unfold putE; rw [if_pos (by rw [← HL.out]; omega)])
    have HV := Lib.hid (show putV p = putB p by unfold putV; rw [if_pos (by rw [← HL.out]; omega)])
    have HBL := Lib.hid (show (putB p).length = 8 + n by rw [putB_len, ← HL.out])
    have hk := modOf_range cut (8 + (n : Int)) (by omega)
    obtain ⟨k, hkn⟩ := Int.eq_ofNat_of_zero_le hk.1
    rw [hkn] at hk
    have HK := Lib.hid hkn
    have hkm : k < 8 + n := by omega
    have HB := Lib.hid (put_back p t (by rw [← HL.out]; omega))
    have HC := Lib.hid (put_cut p k (by rw [← HL.out]; omega) (by rw [HBL.out]; exact hkm))
    have HTK := Lib.hid (show takeK (putB p ++ t) = 8 + n by rw [HB.out.2.1, ← HL.out])
    clear hkn hk
    go_enter Try.func9, Try.ntmps9
    go_wp2_with (first
      | (go_at_call 28; (with_reducible refine (put_any A n c p _ H.out h1 h2).mono ?_); rintro e w1 ⟨v1, rfl, own1, bel1⟩; rw [HE.out]; rw [HV.out] at own1; obtain ⟨A1, c1, rfl, hc11, hc12, sl1⟩ := own1.isSlB; rw [HBL.out] at hc11 sl1 ⊢; have SL1 := Lib.hid sl1; have BEL1 := Lib.hid bel1; have hs1 := bel1.size; clear own1 sl1 bel1)
      | (go_at_call 30; (with_reducible refine (awake03_any _).mono ?_); rintro e w2 ⟨rfl, bel2⟩; have SL2 := Lib.hid ((SL1.out.below bel2).more bel2.size); have BEL2 := Lib.hid (BEL1.out.trans (bel2.mono hs1)); have hs2 := BEL2.out.size; have hs12 := bel2.size; clear bel2)
      | (at_builtin; refine wpList_append_Own _ rfl (.tmp 39) (.tmp 40) 27 rfl w2.heap.size 5 i0 _ 1 Try.underlying27 hi hz0 hz1 hz2 rfl (R := byteRep) (S := fun _ => False) (l := []) (l' := putB p) (.slice (some ⟨w2.heap.size, 0, none⟩) 0 0) rfl (Own.nil _ _ _ (fun _ h => h.elim) _ _) A1 (8 + n) c1 rfl ((SL2.out).srcF flat_byte ((Below.refl w2.heap.size w2).alloc (Nat.le_refl _) _)) (by simp only [maxLen, List.length_nil]; omega) (by simp only [List.length_nil]; omega) (by omega) (by simp) ?_; intro v3 w3 own3 gr3 at3; have bel3 := ((Below.refl w2.heap.size w2).alloc (Nat.le_refl _) (.cells #[] 5)).grown gr3 (by simp) (by intro k hk; simp [rowOf] at hk); simp only [List.nil_append] at own3; clear gr3 at3; have hf3 := own3.form; rw [HBL.out] at hf3; obtain ⟨A3, c3, rfl⟩ := hf3; have hs3 := bel3.size; have OWN3 := Lib.hid own3; have BEL3 := Lib.hid bel3; clear own3 bel3)
      | (at_builtin; refine wpList_append_Own _ rfl (.tmp 41) (.tmp 42) 27 rfl w2.heap.size 5 i0 _ 1 Try.underlying27 hi hz0 hz1 hz2 rfl (R := byteRep) (S := fun _ => False) (l := putB p) (l' := t) (.slice A3 (8 + n) c3) rfl OWN3.out T nt ct rfl ((HT.out).srcF flat_byte (BEL2.out.trans (BEL3.out.mono hs2))) (by rw [HBL.out]; simp only [maxLen]; omega) (by rw [HBL.out]; omega) (by omega) hs3 ?_; intro v4 w4 own4 gr4 at4; have BEL4 := Lib.hid (BEL3.out.grown gr4 hs3 (fun k hk => OWN3.out.row_ge hk)); clear gr4 at4; obtain ⟨A4, c4, rfl, hc41, hc42, sl4⟩ := own4.isSlB; rw [show (putB p ++ t).length = 8 + n + nt by rw [List.length_append, HBL.out, ← HTL.out]] at hc41 sl4 ⊢; have SL4 := Lib.hid sl4; have hs4 := BEL4.out.size; clear own4 sl4)
      | (go_at_call 32; (with_reducible refine (take_any A4 (8 + n + nt) c4 (putB p ++ t) _ SL4.out hc41 hc42).mono ?_); rintro e w5 ⟨v5, rfl, own5, bel5⟩; rw [HB.out.1, HTK.out]; rw [HB.out.2.2] at own5; obtain ⟨A5, c5, rfl, hc51, hc52, sl5⟩ := own5.isSlB; rw [← HL.out] at hc51 sl5 ⊢; have BEL5 := Lib.hid (BEL4.out.trans (bel5.mono hs4)); have SL5 := Lib.hid sl5; have hs5 := BEL5.out.size; have SLK := Lib.hid (((SL2.out.below BEL5.out).more hs5).cutTo (hi := k) (by omega)); clear own5 sl5 bel5)
      | (go_at_call 24; (with_reducible refine (mod_any cut (8 + (n : Int)) _ (by omega) (by omega)).mono ?_); rintro e w' ⟨rfl, rfl⟩; rw [HK.out])
      | (go_at_call 32; (with_reducible refine (take_any A1 k c1 ((putB p).take k) _ SLK.out (by omega) hc12).mono ?_); rintro e w6 ⟨v6, rfl, own6, bel6⟩; rw [HC.out]; have BEL6 := Lib.hid (BEL5.out.trans (bel6.mono hs5)); have SL6 := Lib.hid ((SL5.out.below bel6).more bel6.size); have hs6 := BEL6.out.size; obtain ⟨A6, c6, rfl⟩ := own6.form; clear own6 bel6)
      | (go_at_call 18; (with_reducible refine (bytes_any A A5 n c n c5 p _ _ _ ((H.out.below (BEL2.out.trans (BEL6.out.mono hs2))).more (Nat.le_trans hs2 hs6)) SL6.out).mono ?_); rintro e w' ⟨rfl, rfl⟩)
      | fail)
    go_ret
    exact ⟨by simp, BEL2.out.trans (BEL6.out.mono hs2)⟩
end Go.Proofs.Ytfpmpihojjegbaa
