/- The walk of the law SegBack. Written by gen_segw.py. -/
import Derived.Test.YtcohheoahdbgmaaSegA
import Derived.Deep.DeepCutAuto
set_option linter.unusedVariables false
set_option linter.unusedSimpArgs false
set_option maxRecDepth 100000
namespace Go.Proofs.Ytcohheoahdbgmaa
open Go.RowKit

set_option maxHeartbeats 16000000 in
theorem segBack_walk (w : World) (f : Int) (hf : I64 f) (A : Option Addr) (n c : Nat) (L : List (List UInt8)) (h : IsSl (sliceRep byteRep) w (· < w.heap.size) A n L) (h1 : n ≤ c) (h2 : c ≤ maxLen) (cut : Int) (_ : I64 cut) :
    Calls Try.prog 11 #[.int .i64 f, .slice A n c, .int .i64 cut] w fun e w' => e = .returned (.bool true) ∧ Below w.heap.size w w' := by
  have HH := Lib.hid h
  have hqr := modOf_range f 1099511627776 (by omega)
  obtain ⟨q0, hq0⟩ : ∃ q, q = modOf f 1099511627776 := ⟨_, rfl⟩
  rw [← hq0] at hqr
  have HQ0 := Lib.hid hq0
  obtain ⟨k, hk⟩ : ∃ k, k = 1 + q0 := ⟨_, rfl⟩
  have HK := Lib.hid hk
  have hk1 : 1 ≤ k ∧ k ≤ 1099511627776 := by omega
  have HKI := Lib.hid (show I64 k by unfold I64; omega)
  have hways : (decide (30 < (n : Int)) = false ∧ n ≤ 30) ∨ (decide (30 < (n : Int)) = true ∧ 30 < n) := by
    by_cases h : n ≤ 30
    · exact .inl ⟨decide_eq_false (by omega), h⟩
    · exact .inr ⟨decide_eq_true (by omega), by omega⟩
  have hnc : (n : Int) ≤ (c : Int) := by omega
  clear h hq0 hk
  go_enter Try.func11, Try.ntmps11
  go_upto_region 2 with (first
    | (go_at_call 23; (with_reducible refine (big_any f 1099511627776 _ (by omega) (by omega)).mono ?_); rintro e w' ⟨rfl, rfl⟩; rw [← HQ0.out])
    | fail)
  rw [← HK.out]
  go_cut [1] (fun v1 wc => ∃ M : Nat, v1 = .slice A M c ∧ M ≤ n ∧ M ≤ 30 ∧ wc = w)
  case first =>
    rcases hways with ⟨hd, hn⟩ | ⟨hd, hn⟩
    · have hd3 : decide ((n : Int) ≤ 30) = true := decide_eq_true (by omega)
      go_wp2_with fail
      go_meet
      case rel => exact ⟨n, rfl, Nat.le_refl _, by omega, rfl⟩
    · have hd3 : (30 : Int) < (n : Int) := by omega
      have hd5 : decide ((n : Int) < 30) = false := decide_eq_false (by omega)
      have hd6 : decide ((n : Int) ≤ 30) = false := decide_eq_false (by omega)
      have hd4 : (30 : Int) ≤ (c : Int) := by omega
      go_wp2_with fail
      all_goals
        go_meet
        case rel => exact ⟨30, rfl, by omega, Nat.le_refl _, rfl⟩
  case rest =>
    obtain ⟨M, rfl, hMn, hM30, rfl⟩ := hcut
    have hMc : M ≤ c := by omega
    obtain ⟨R, hR⟩ : ∃ R, R = L.take M := ⟨_, rfl⟩
    have SR := Lib.hid (show IsSl (sliceRep byteRep) wc (· < wc.heap.size) A M R by rw [hR]; exact HH.out.cutTo hMn)
    have HRL := Lib.hid SR.out.len
    clear hR hways
    go_wp2_with fail
    go_loop [8] (fun i => ∃ j : Nat, i = .int .i64 j ∧ j ≤ M ∧ ∀ p ∈ R.take j, p.length ≤ 5000) (fun i => M - (intOf i).toNat)
    case atStart => exact ⟨0, rfl, Nat.zero_le _, fun p hp => by simp at hp⟩
    case round =>
      obtain ⟨j, rfl, hj, hall⟩ := hrel
      have HALL := Lib.hid hall
      clear hall
      by_cases hlt : j < M
      · obtain ⟨b, off, p, A1, n1, c1, rfl, hb, hx, s1, l1, m1, hc⟩ := SR.out.rowAt hlt (fun _ _ => rfl)
        have hd : decide ((j : Int) < (M : Int)) = true := decide_eq_true (by omega)
        have hjm : (j : Int) < (M : Int) := by omega
        have hj0 : (0 : Int) ≤ (j : Int) := by omega
        have HN1 := Lib.hid s1.len
        have HX := Lib.hid (take_snoc hx)
        clear hx s1
        by_cases h5 : 5000 < n1
        · have hd5 : decide (5000 < (n1 : Int)) = true := decide_eq_true (by omega)
          go_wp2_with (go_at_call 32; (with_reducible refine (awake05 _).mono ?_); rintro e w1 ⟨rfl, hb1⟩; have B1 := Lib.hid hb1; clear hb1)
          go_ret
          exact ⟨rfl, B1.out⟩
        · have hd5 : decide (5000 < (n1 : Int)) = false := decide_eq_false (by omega)
          go_wp2_with fail
          go_round
          case rel =>
            refine ⟨j + 1, by go_num, by omega, ?_⟩
            rw [HX.out]
            intro q hq
            rcases List.mem_append.mp hq with hq | hq
            · exact HALL.out q hq
            · obtain rfl : q = p := by simpa using hq
              have := HN1.out
              omega
          case measure => simp [intOf]; omega
      · obtain rfl : j = M := by omega
        have hjj : decide ((j : Int) < (j : Int)) = false := by simp
        have hall := HALL.out
        rw [List.take_of_length_le (by rw [← HRL.out]; exact Nat.le_refl _)] at hall
        obtain ⟨k1, k2, k3, k4, k5⟩ := seg_back hk1 hall (by rw [← HRL.out]; exact hM30)
        have hE := (seg_yes k1).2.2.2
        obtain ⟨B, hB⟩ : ∃ B, B = bytesV k R := ⟨_, rfl⟩
        obtain ⟨N, hN⟩ : ∃ N, N = B.length := ⟨_, rfl⟩
        have hN1 : 19 ≤ N ∧ N ≤ 31457539 := by rw [hN, hB]; have := bytesV_len k R; rw [(headV_yes hk1).2.2] at this; exact this
        rw [← hB] at k2 k3 k4 k5 hE
        rw [← hN] at k4 k5
        have HB := Lib.hid hB
        have HN := Lib.hid hN
        have K2 := Lib.hid k2
        have K3 := Lib.hid k3
        have K4 := Lib.hid k4
        have KE := Lib.hid hE
        have hcm := modOf_range cut (N : Int) (by omega)
        obtain ⟨q, hq⟩ := Int.eq_ofNat_of_zero_le hcm.1
        have hq2 : q < N := by omega
        have HQ := Lib.hid hq
        have K5 := Lib.hid (k5 q hq2)
        have hqc : (q : Int) ≤ (N : Int) := by omega
        clear hall k1 k2 k3 k4 k5 hE hB hN hcm hq hlt
        go_upto_region 14 with (first
          | (go_at_call 33; (with_reducible refine (bytes05_any k HKI.out A j c R wc SR.out).mono ?_); rintro e w1 ⟨v1, rfl, own1, bel1⟩; rw [← HB.out] at own1; obtain ⟨A1, c1, rfl, l1, m1, sl1⟩ := own1.isSlB; rw [← HN.out] at l1 sl1 ⊢; have hqc1 : (q : Int) ≤ (c1 : Int) := (by omega); have SL1 := Lib.hid sl1; have SR1 := Lib.hid (SR.out.aft bel1); have B1 := Lib.hid bel1; clear own1 sl1 bel1)
          | (go_at_call 35; (with_reducible refine (segRead_any A1 N c1 B w1 SL1.out l1 m1 (by omega)).mono ?_); rintro e w2 ⟨A2, n2, c2, rfl, s2, l2, m2, bel2⟩; rw [K2.out, K4.out, KE.out]; rw [K3.out] at s2; have S2 := Lib.hid s2; have HN2 := Lib.hid s2.len; have SL2 := Lib.hid (SL1.out.aft bel2); have SR2 := Lib.hid (SR1.out.aft bel2); have B2 := Lib.hid (bel_next B1.out bel2); clear s2 bel2)
          | (go_at_call 32; (with_reducible refine (awake05 w2).mono ?_); rintro e w3 ⟨rfl, bel3⟩; have S3 := Lib.hid (S2.out.aft bel3); have SL3 := Lib.hid (SL2.out.aft bel3); have SR3 := Lib.hid (SR2.out.aft bel3); have B3 := Lib.hid (bel_next B2.out bel3); clear bel3)
          | (go_at_call 36; (with_reducible refine (many_any A2 A n2 j c2 c R w3 S3.out SR3.out (by have := HN2.out; have := HRL.out; omega)).mono ?_); rintro e w4 ⟨rfl, bel4⟩; have SL4 := Lib.hid (SL3.out.aft bel4); have SR4 := Lib.hid (SR3.out.aft bel4); have B4 := Lib.hid (bel_next B3.out bel4); clear bel4)
          | (go_at_call 17; (with_reducible refine (mod_any cut (N : Int) _ (by omega) (by omega)).mono ?_); rintro e w' ⟨rfl, rfl⟩; rw [HQ.out])
          | (go_at_call 35; (with_reducible refine (segRead_any A1 q c1 (B.take q) w4 (SL4.out.cutTo (by omega)) (by omega) m1 (by omega)).mono ?_); rintro e w5 ⟨A5, n5, c5, rfl, s5, l5, m5, bel5⟩; have S5 := Lib.hid s5; have SR5 := Lib.hid (SR4.out.aft bel5); have B5 := Lib.hid (bel_next B4.out bel5); clear s5 bel5)
          | fail)
        by_cases hq19 : q < 19
        · have hno := seg_no (K5.out.1 hq19)
          obtain rfl : n5 = 0 := by have := S5.out.len; rw [hno.2.1] at this; exact this
          rw [hno.1, hno.2.2.1, hno.2.2.2]
          have hd19 : decide ((q : Int) < 19) = true := decide_eq_true (by omega)
          clear hno
          go_wp2_with fail
          go_ret
          exact ⟨rfl, B5.out⟩
        · obtain ⟨y1, y2, y3, z, y4, y5⟩ := K5.out.2 (by omega)
          have hd19 : decide ((q : Int) < 19) = false := decide_eq_false (by omega)
          have hE5 := (seg_yes y1).2.2.2
          rw [y2, hE5]
          obtain ⟨sk, hsk⟩ : ∃ sk, sk = segK (B.take q) := ⟨_, rfl⟩
          rw [← hsk] at y3 ⊢
          rw [y5] at S5
          have HN5 := Lib.hid (show n5 = z by have := S5.out.len; rw [List.length_take] at this; have := HRL.out; omega)
          have hz1 : z < j := by rw [HRL.out]; exact y4
          obtain rfl := HN5.out
          have SZ := Lib.hid (SR5.out.cutTo (hi := n5) (by omega))
          have hsq : decide ((sk : Int) ≤ (q : Int)) = true := decide_eq_true (by omega)
          have hzj : decide ((n5 : Int) < (j : Int)) = true := decide_eq_true (by omega)
          have hzc : (n5 : Int) ≤ (c : Int) := by omega
          clear hsk y1 y2 y4 y5 hE5
          go_wp2_with (first
            | (go_at_call 36; (with_reducible refine (many_any A5 A n5 n5 c5 c (R.take n5) w5 S5.out SZ.out (by omega)).mono ?_); rintro e w6 ⟨rfl, bel6⟩; have B6 := Lib.hid (bel_next B5.out bel6); clear bel6)
            | fail)
          go_ret
          exact ⟨rfl, B6.out⟩
end Go.Proofs.Ytcohheoahdbgmaa
