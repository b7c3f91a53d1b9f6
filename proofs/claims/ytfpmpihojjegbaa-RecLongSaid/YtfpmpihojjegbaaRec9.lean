/- The walk of RecLong. -/
import Derived.Test.YtfpmpihojjegbaaRec8
import Derived.Test.YtfpmpihojjegbaaRecP
import Derived.Test.YtfpmpihojjegbaaFldD
namespace Go.Proofs.Ytfpmpihojjegbaa
open Go.RowKit

theorem eight_bytes (k : Nat) (hk : k ≤ 1048577) : (#[.int .u8 ((k : Int) / 16777216), .int .u8 ((k : Int) / 65536), .int .u8 ((k : Int) / 256 % 256), .int .u8 ((k : Int) % 256), .int .u8 0, .int .u8 0, .int .u8 0, .int .u8 0] : Array Value) = (byteVals (bigB k 4 ++ [0, 0, 0, 0])).toArray := by
  have h3 : ((UInt8.ofNat (k / 256 ^ 3)).toNat : Int) = (k : Int) / 16777216 := by rw [UInt8.toNat_ofNat']; omega
  have h2 : ((UInt8.ofNat (k / 256 ^ 2)).toNat : Int) = (k : Int) / 65536 := by rw [UInt8.toNat_ofNat']; omega
  have h1 : ((UInt8.ofNat (k / 256 ^ 1)).toNat : Int) = (k : Int) / 256 % 256 := by rw [UInt8.toNat_ofNat']; omega
  have h0 : ((UInt8.ofNat (k / 256 ^ 0)).toNat : Int) = (k : Int) % 256 := by rw [UInt8.toNat_ofNat']; omega
  rw [← h3, ← h2, ← h1, ← h0]
  rfl

theorem takeE_long (k : Nat) (hk : k ≤ 1048577) (h1 : 1048575 ≤ k) : takeE (bigB k 4 ++ [0, 0, 0, 0]) = if 1048576 < k then 3 else 2 := by
  have hl : (bigB k 4 ++ [0, 0, 0, 0]).length = 8 := by rw [List.length_append, bigB_len]; rfl
  have hN : takeN (bigB k 4 ++ [0, 0, 0, 0]) = k := by
    unfold takeN
    rw [List.take_append_of_le_length (by rw [bigB_len]; omega), List.take_of_length_le (by rw [bigB_len]; omega), numB_bigB]
    omega
  unfold takeE
  rw [hl, hN, if_neg (by omega)]
  split
  · rfl
  · rw [if_pos (by omega)]

set_option maxHeartbeats 2000000 in
theorem recLong_walk (w : World) (n : Int) (_ : I64 n) :
    Calls Try.prog 11 #[.int .i64 n] w fun e w' => e = .returned (.bool true) ∧ Below w.heap.size w w' := by
  have hk := modOf_range n 3 (by omega)
  obtain ⟨kn, hkn⟩ := Int.eq_ofNat_of_zero_le hk.1
  rw [hkn] at hk
  have HK := Lib.hid hkn
  have hk3 : kn < 3 := by omega
  obtain ⟨k, hkk⟩ : ∃ k : Nat, k = 1048575 + kn := ⟨_, rfl⟩
  have hki : (1048575 : Int) + (kn : Int) = (k : Int) := by omega
  have hk1 : 1048575 ≤ k := by omega
  have hk2 : k ≤ 1048577 := by omega
  obtain ⟨i0, hi, hz0, hz1, hz2⟩ := info_parts info_byte
  have hmb := fun W : World => run_make_own (P := Try.prog) 27 5 i0 _ 1 1 Try.underlying27 hi hz0 hz1 hz2 .i64 .i64 k _ hki (by omega) (by omega) W
  have HKI := Lib.hid hki
  clear hkn hk hki hkk
  go_enter Try.func11, Try.ntmps11
  go_wp2_with (first
    | (go_at_call 24; (with_reducible refine (mod_any n 3 _ (by omega) (by omega)).mono ?_); rintro e w' ⟨rfl, rfl⟩; rw [HK.out])
    | fail)
  rw [HKI.out]
  obtain ⟨W1, hW1⟩ : ∃ W1, W1 = w.alloc (.cells (madeCells #[.int .u8 0] k) 5) := ⟨_, rfl⟩
  have own0 : Own byteRep W1 w.heap.size (fun _ => False) 5 (.slice (some ⟨w.heap.size, 0, none⟩) k k) (List.replicate k 0) := by
    rw [hW1]
    have := Own.made (R := byteRep) w (.int .u8 0) 0 k 5 rfl (fun _ _ => ⟨rfl, by trivial⟩) (by unfold maxLen; omega)
    rwa [show k * byteRep.size = k from Nat.mul_one k] at this
  have bel0 : Below w.heap.size w W1 := by rw [hW1]; exact (Below.refl _ _).alloc (Nat.le_refl _) _
  rw [← hW1]
  clear hW1 hmb
  have H1 := Lib.hid (own0.isSlB)
  have hkm : k ≤ maxLen := by unfold maxLen; omega
  have hlr : (List.replicate k (0 : UInt8)).length = k := List.length_replicate
  have HLR := Lib.hid hlr
  obtain ⟨A1, c1, hv, hc11, hc12, sl1⟩ := own0.isSlB
  injection hv with hA hn hc
  subst hA hc
  rw [hlr] at sl1
  have SL1 := Lib.hid sl1
  obtain ⟨E, hE⟩ : ∃ E, E = putE (List.replicate k 0) := ⟨_, rfl⟩
  obtain ⟨V, hV⟩ : ∃ V, V = putV (List.replicate k 0) := ⟨_, rfl⟩
  have HE := Lib.hid hE
  have HV := Lib.hid hV
  by_cases hbig : 1048576 < k
  · have HE2 := Lib.hid (show putE (List.replicate k 0) = 1 by unfold putE; rw [if_neg (by rw [hlr]; omega)])
    have HVL := Lib.hid (show (putV (List.replicate k 0)).length = 0 by unfold putV; rw [if_neg (by rw [hlr]; omega)]; rfl)
    have HTE := Lib.hid (show takeE (bigB k 4 ++ [0, 0, 0, 0]) = 3 by rw [takeE_long k hk2 hk1, if_pos hbig])
    clear hE hV sl1 H1 hn hlr hc11 hc12
    go_wp2_with (first
      | (go_at_call 28; (with_reducible refine (put_any (some ⟨w.heap.size, 0, none⟩) k k (List.replicate k 0) _ SL1.out (Nat.le_refl _) hkm).mono ?_); rintro e w2 ⟨v2, rfl, own2, bel2⟩; rw [HE2.out]; obtain ⟨A2, c2, rfl, hc21, hc22, sl2⟩ := own2.isSlB; rw [HVL.out]; have BW2 := Lib.hid (bel0.trans (bel2.mono bel0.size)); have hs2 := bel2.size; clear own2 sl2 bel2)
      | (go_at_call 32; have K := take_any (some ⟨w2.heap.size, 0, none⟩) 8 8 (bigB k 4 ++ [0, 0, 0, 0]) (w2.alloc (.cells #[.int .u8 ((k : Int) / 16777216), .int .u8 ((k : Int) / 65536), .int .u8 ((k : Int) / 256 % 256), .int .u8 ((k : Int) % 256), .int .u8 0, .int .u8 0, .int .u8 0, .int .u8 0] 5)) (IsSl.newBytes _ (eight_bytes k hk2) (by rw [List.length_append, bigB_len]; rfl) (by simp)) (by omega) (by unfold maxLen; omega); (with_reducible refine K.mono ?_); clear K; rintro e w4 ⟨v4, rfl, own4, bel4⟩; rw [HTE.out]; have BW4 := Lib.hid (BW2.out.trans ((((Below.refl w2.heap.size w2).alloc (Nat.le_refl _) _).trans (bel4.mono (by simp))).mono BW2.out.size)); clear own4 bel4)
      | (go_at_call 30; (with_reducible refine (awake03_any _).mono ?_); rintro e w5 ⟨rfl, bel5⟩; have BW5 := Lib.hid (BW4.out.trans (bel5.mono BW4.out.size)); clear bel5)
      | fail)
    all_goals go_ret
    all_goals exact ⟨rfl, BW5.out⟩
  · have HE2 := Lib.hid (show putE (List.replicate k 0) = 0 by unfold putE; rw [if_pos (by rw [hlr]; omega)])
    have HVL := Lib.hid (show (putV (List.replicate k 0)).length = 8 + k by unfold putV; rw [if_pos (by rw [hlr]; omega)]; rw [putB_len, hlr])
    have HTE := Lib.hid (show takeE (bigB k 4 ++ [0, 0, 0, 0]) = 2 by rw [takeE_long k hk2 hk1, if_neg hbig])
    clear hE hV sl1 H1 hn hlr hc11 hc12
    go_wp2_with (first
      | (go_at_call 28; (with_reducible refine (put_any (some ⟨w.heap.size, 0, none⟩) k k (List.replicate k 0) _ SL1.out (Nat.le_refl _) hkm).mono ?_); rintro e w2 ⟨v2, rfl, own2, bel2⟩; rw [HE2.out]; obtain ⟨A2, c2, rfl, hc21, hc22, sl2⟩ := own2.isSlB; rw [HVL.out]; have BW2 := Lib.hid (bel0.trans (bel2.mono bel0.size)); have hs2 := bel2.size; clear own2 sl2 bel2)
      | (go_at_call 32; have K := take_any (some ⟨w2.heap.size, 0, none⟩) 8 8 (bigB k 4 ++ [0, 0, 0, 0]) (w2.alloc (.cells #[.int .u8 ((k : Int) / 16777216), .int .u8 ((k : Int) / 65536), .int .u8 ((k : Int) / 256 % 256), .int .u8 ((k : Int) % 256), .int .u8 0, .int .u8 0, .int .u8 0, .int .u8 0] 5)) (IsSl.newBytes _ (eight_bytes k hk2) (by rw [List.length_append, bigB_len]; rfl) (by simp)) (by omega) (by unfold maxLen; omega); (with_reducible refine K.mono ?_); clear K; rintro e w4 ⟨v4, rfl, own4, bel4⟩; rw [HTE.out]; have BW4 := Lib.hid (BW2.out.trans ((((Below.refl w2.heap.size w2).alloc (Nat.le_refl _) _).trans (bel4.mono (by simp))).mono BW2.out.size)); clear own4 bel4)
      | (go_at_call 30; (with_reducible refine (awake03_any _).mono ?_); rintro e w5 ⟨rfl, bel5⟩; have BW5 := Lib.hid (BW4.out.trans (bel5.mono BW4.out.size)); clear bel5)
      | fail)
    all_goals go_ret
    all_goals exact ⟨rfl, BW5.out⟩
end Go.Proofs.Ytfpmpihojjegbaa
