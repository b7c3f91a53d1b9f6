/- Contract: the reference's Put. -/
import Derived.Test.YthhpddiicnjmmaaRec3
import Derived.Test.YthhpddiicnjmmaaFld6
set_option maxRecDepth 100000
namespace Go.Proofs.Ythhpddiicnjmmaa
open Go.RowKit

set_option maxHeartbeats 2000000 in
theorem refput_any (A : Option Addr) (n c : Nat) (p : List UInt8) (w : World) (h : IsSl byteRep w (· < w.heap.size) A n p) (h1 : n ≤ c) (h2 : c ≤ maxLen) :
    Calls Try.prog 57 #[.slice A n c] w fun e w' => ∃ v, e = .returned (.tuple #[v, .int .i64 (putE p)]) ∧ Own byteRep w' w.heap.size (fun _ => False) 5 v (putV p) ∧ Below w.heap.size w w' := by
  obtain ⟨i0, hi, hz0, hz1, hz2⟩ := info_parts info_byte
  have H := Lib.hid h
  have HL := Lib.hid h.len
  have hnm : n ≤ 9223372036854775807 := by unfold maxLen at h2; omega
  clear h
  by_cases hbig : 1048576 < n
  · have HE := Lib.hid (show putE p = 1 by unfold putE; rw [← HL.out, if_neg (by omega)])
    have HV := Lib.hid (show putV p = [] by unfold putV; rw [← HL.out, if_neg (by omega)])
    go_enter Try.func57, Try.ntmps57
    go_wp2
    go_ret2
    rw [HE.out, HV.out]
    exact ⟨_, rfl, Own.nil _ _ _ (fun _ h => h.elim) _ _, Below.refl _ _⟩
  · have hn : n ≤ 1048576 := by omega
    have hnM : n ≤ maxLen := Nat.le_trans h1 h2
    have HE := Lib.hid (show putE p = 0 by unfold putE; rw [← HL.out, if_pos hn])
    have HV := Lib.hid (show putV p = bigB n 4 ++ bigB (recSum p) 4 ++ p by unfold putV; rw [← HL.out, if_pos hn]; unfold putB; rw [HL.out, List.append_assoc])
    have hs1 : moreC 0 (bigB n 4) < 4294967296 := moreC_lt _ _ (by omega)
    have hs2 : recSum p < 4294967296 := by unfold recSum; exact moreC_lt _ _ (moreC_lt _ _ (by omega))
    have HRS := Lib.hid (show moreC (moreC 0 (bigB n 4)) p = recSum p by unfold recSum; rw [HL.out])
    have h64 : recSum p < 18446744073709551616 := by omega
    have h4l := bigB_len n 4
    have H4L := Lib.hid h4l
    have h4 : (4 : Nat) ≤ maxLen := by unfold maxLen; omega
    clear hbig h4l
    go_enter Try.func57, Try.ntmps57
    go_wp2_with (first
      | (go_at_call 118; (with_reducible refine (big64_any n 4 _ 4 rfl rfl _ (by omega) (by omega)).mono ?_); rintro e w2 ⟨v2, rfl, own2, bel2⟩; obtain ⟨A2, c2, rfl, hc21, hc22, sl2⟩ := own2.isSlB; rw [H4L.out] at hc21 sl2 ⊢; have OW2 := Lib.hid own2; have SL2 := Lib.hid sl2; have hs2' := bel2.size; have H2 := Lib.hid ((H.out.below bel2).more hs2'); clear own2 sl2)
      | (go_at_call 121; (with_reducible refine (refsum_any A2 4 c2 (bigB n 4) _ _ SL2.out h4).mono ?_); rintro e w' ⟨rfl, rfl⟩)
      | (go_at_call 120; (with_reducible refine (refmore_any (moreC 0 (bigB n 4)) A n c p _ _ hs1 H2.out hnM).mono ?_); rintro e w' ⟨rfl, rfl⟩; rw [HRS.out])
      | (go_at_call 118; (with_reducible refine (big64_any (recSum p) 4 _ 4 rfl rfl _ h64 (by omega)).mono ?_); rintro e w3 ⟨v3, rfl, own3, bel3⟩; obtain ⟨A3, c3, rfl, hlc3, hcm3, hsrc3⟩ := own3.srcOf; rw [bigB_len] at hsrc3 ⊢; have HS3 := Lib.hid (hsrc3 w3 (fun _ => False) flat_byte (Below.refl _ _)); have OW3 := Lib.hid (OW2.out.below bel3); have bw3 : Below w.heap.size w w3 := bel2.trans (bel3.mono hs2'); have hs3 := bw3.size; clear own3 hsrc3 bel3)
      | (at_builtin; refine wpList_append_Own _ rfl _ _ 25 rfl w.heap.size 5 i0 _ 1 Try.underlying25 hi hz0 hz1 hz2 rfl (R := byteRep) (S := fun _ => False) (l := bigB n 4) (l' := bigB (recSum p) 4) (.slice A2 4 c2) rfl OW3.out A3 4 c3 rfl HS3.out (by rw [H4L.out]; simp [maxLen]) (by rw [H4L.out]; omega) (by omega) hs3 ?_; intro v6 w6 own6 gr6 at6; have OW6 := Lib.hid own6; have bw6 : Below w.heap.size w w6 := bw3.grown gr6 hs3 (fun g hg => OW3.out.row_ge hg); have hs6 := bw6.size; clear own6 gr6 at6)
      | (at_builtin; refine wpList_append_Own _ rfl _ _ 25 rfl w.heap.size 5 i0 _ 1 Try.underlying25 hi hz0 hz1 hz2 rfl (R := byteRep) (S := fun _ => False) (l := bigB n 4 ++ bigB (recSum p) 4) (l' := p) v6 rfl OW6.out A n c rfl (H.out.srcF flat_byte bw6) (by rw [List.length_append, bigB_len, bigB_len]; simp [maxLen]; omega) (by rw [List.length_append, bigB_len, bigB_len]; omega) (by omega) hs6 ?_; intro v7 w7 own7 gr7 at7; have OW7 := Lib.hid own7; have BW7 := Lib.hid (bw6.grown gr7 hs6 (fun g hg => OW6.out.row_ge hg)); clear own7 gr7 at7)
      | fail)
    go_ret2
    rw [HE.out, HV.out]
    exact ⟨_, rfl, OW7.out, BW7.out⟩
end Go.Proofs.Ythhpddiicnjmmaa
