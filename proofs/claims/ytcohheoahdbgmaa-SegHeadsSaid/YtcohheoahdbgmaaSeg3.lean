/- Contract: ref04.Read. Written by gen_seg.py. -/
import Derived.Test.YtcohheoahdbgmaaSeg2
import Derived.Test.YtcohheoahdbgmaaFld7
set_option linter.unusedVariables false
set_option linter.unusedSimpArgs false
set_option maxRecDepth 100000
namespace Go.Proofs.Ytcohheoahdbgmaa
open Go.RowKit

set_option maxHeartbeats 16000000 in
theorem refsegRead_any (A : Option Addr) (n c : Nat) (b : List UInt8) (w : World) (h : IsSl byteRep w (· < w.heap.size) A n b) (h1 : n ≤ c) (h2 : c ≤ maxLen) (hz : n ≤ 35184372088832) :
    Calls Try.prog 69 #[.slice A n c] w fun e w' => ∃ A2 n2 c2, e = .returned (.tuple #[.int .i64 (segF b), .slice A2 n2 c2, .int .i64 (segK b : Int), .int .i64 (segE b)]) ∧ IsSl (sliceRep byteRep) w' (· < w'.heap.size) A2 n2 (segR b) ∧ n2 ≤ c2 ∧ c2 ≤ maxLen ∧ Below w.heap.size w w' := by
  have H := Lib.hid h
  clear h
  obtain ⟨L, hL⟩ : ∃ L, L = (scanL b).1 := ⟨_, rfl⟩
  obtain ⟨K, hK⟩ : ∃ K, K = (scanL b).2 := ⟨_, rfl⟩
  have HL := Lib.hid hL
  have HK := Lib.hid hK
  have HOK := Lib.hid (show segOkL L = segOk b by rw [hL]; rfl)
  clear hL hK
  cases L with
  | nil =>
    have HN := Lib.hid (seg_no (b := b) (by rw [← HOK.out]; rfl))
    go_enter Try.func69, Try.ntmps69
    go_wp2_with (first
      | (go_at_call 93; (with_reducible refine (refscan_any A n c b w H.out h1 h2 hz).mono ?_); rintro e w1 ⟨v1, S1, rfl, own1, bel1⟩; rw [← HK.out]; rw [← HL.out] at own1; obtain ⟨A1, c1, rfl, l1, m1, sl1⟩ := own1.isSl (S' := (· < w1.heap.size)) (fun q hq => own1.1 q hq) (fun _ _ h => h); have B1 := Lib.hid bel1; clear own1 sl1 bel1)
      | fail)
    refine bodyPost_ret (by simp [results, Try.results69, go_sem]; try rfl) rfl ?_
    rw [HN.out.1, HN.out.2.1, HN.out.2.2.1, HN.out.2.2.2]
    exact ⟨none, 0, 0, rfl, IsSl.nil, Nat.le_refl _, Nat.zero_le _, B1.out⟩
  | cons p r =>
    obtain ⟨n1, hn1⟩ : ∃ n1, n1 = (p :: r).length := ⟨_, rfl⟩
    have hnl : n1 = r.length + 1 := by simpa using hn1
    have HN1 := Lib.hid hn1
    have hn0 : ((n1 : Int) == 0) = false := by simp; omega
    have hn1' : (0 : Int) < (n1 : Int) := by omega
    have hn2 : 0 < n1 := by omega
    have HC := Lib.hid (show segOkL (p :: r) = (decide (decE p = 0) && hdOk (decV p)) from rfl)
    have HNL := Lib.hid (show segNL (p :: r) = hdN (decV p) from rfl)
    rw [HOK.out] at HC
    obtain ⟨L, hLe⟩ : ∃ L, L = p :: r := ⟨_, rfl⟩
    have HLE := Lib.hid hLe
    rw [← hLe] at HL HN1 HNL
    clear hn1 hnl hLe
    rcases hd_ways p with ⟨h0, h3⟩ | ⟨h0, h3, h4⟩ | ⟨f, h0, hf, hway⟩
    · have HN := Lib.hid (seg_no (b := b) (by rw [HC.out, h3, Bool.false_and]))
      clear h3
      go_enter Try.func69, Try.ntmps69
      go_wp2_with (first
        | (go_at_call 93; (with_reducible refine (refscan_any A n c b w H.out h1 h2 hz).mono ?_); rintro e w1 ⟨v1, S1, rfl, own1, bel1⟩; rw [← HK.out]; rw [← HL.out] at own1; have hne : L ≠ [] := (by rw [HLE.out]; simp); obtain ⟨g1, c1, rfl, -⟩ := own1.form1 hne; obtain ⟨A1, c1', hv1, l1, m1, sl1⟩ := own1.isSl (S' := (· < w1.heap.size)) (fun q hq => own1.1 q hq) (fun _ _ h => h); injection hv1 with e1 _ e2; subst e1 e2; rw [← HN1.out] at sl1 l1 ⊢; have SL1 := Lib.hid sl1; have B1 := Lib.hid bel1; rw [HLE.out] at sl1; obtain ⟨b1, o1, A3, n3, c3, hA3, hb3, s3, l3, m3, hc3⟩ := sl1.first; injection hA3 with hA3; injection hA3 with e3 e4 _; subst e3 e4; have S3 := Lib.hid s3; clear own1 sl1 bel1 hne s3)
        | (go_at_call 63; (with_reducible refine (refdecode_any A3 n3 c3 p w1 S3.out l3 m3).mono ?_); rintro e w2 ⟨v2, rfl, own2, bel2⟩; have B2 := Lib.hid (B1.out.trans (bel2.mono B1.out.size)); have SL2 := Lib.hid (show IsSl (sliceRep byteRep) w2 (· < w2.heap.size) (some ⟨g1, 0, none⟩) n1 L from (SL1.out.below bel2).more bel2.size); clear own2 bel2)
        | fail)
      refine bodyPost_ret (by simp [results, Try.results69, go_sem]; try rfl) rfl ?_
      rw [HN.out.1, HN.out.2.1, HN.out.2.2.1, HN.out.2.2.2]
      exact ⟨none, 0, 0, rfl, IsSl.nil, Nat.le_refl _, Nat.zero_le _, B2.out⟩
    · have HN := Lib.hid (seg_no (b := b) (by rw [HC.out, h4, Bool.and_false]))
      have HE0 := Lib.hid h0
      clear h0 h4
      go_enter Try.func69, Try.ntmps69
      go_wp2_with (first
        | (go_at_call 93; (with_reducible refine (refscan_any A n c b w H.out h1 h2 hz).mono ?_); rintro e w1 ⟨v1, S1, rfl, own1, bel1⟩; rw [← HK.out]; rw [← HL.out] at own1; have hne : L ≠ [] := (by rw [HLE.out]; simp); obtain ⟨g1, c1, rfl, -⟩ := own1.form1 hne; obtain ⟨A1, c1', hv1, l1, m1, sl1⟩ := own1.isSl (S' := (· < w1.heap.size)) (fun q hq => own1.1 q hq) (fun _ _ h => h); injection hv1 with e1 _ e2; subst e1 e2; rw [← HN1.out] at sl1 l1 ⊢; have SL1 := Lib.hid sl1; have B1 := Lib.hid bel1; rw [HLE.out] at sl1; obtain ⟨b1, o1, A3, n3, c3, hA3, hb3, s3, l3, m3, hc3⟩ := sl1.first; injection hA3 with hA3; injection hA3 with e3 e4 _; subst e3 e4; have S3 := Lib.hid s3; clear own1 sl1 bel1 hne s3)
        | (go_at_call 63; (with_reducible refine (refdecode_any A3 n3 c3 p w1 S3.out l3 m3).mono ?_); rintro e w2 ⟨v2, rfl, own2, bel2⟩; rw [HE0.out]; obtain ⟨A4, c4, rfl, l4, m4, sl4⟩ := own2.isSlB; clear sl4; have B2 := Lib.hid (B1.out.trans (bel2.mono B1.out.size)); have SL2 := Lib.hid (show IsSl (sliceRep byteRep) w2 (· < w2.heap.size) (some ⟨g1, 0, none⟩) n1 L from (SL1.out.below bel2).more bel2.size); clear own2 bel2)
        | fail)
      refine bodyPost_ret (by simp [results, Try.results69, go_sem]; try rfl) rfl ?_
      rw [HN.out.1, HN.out.2.1, HN.out.2.2.1, HN.out.2.2.2]
      exact ⟨none, 0, 0, rfl, IsSl.nil, Nat.le_refl _, Nat.zero_le _, B2.out⟩
    · rw [hf] at HC HNL
      have HF := Lib.hid hf
      have HE0 := Lib.hid h0
      clear h0 hf
      obtain ⟨fk, fn, fs⟩ := f
      dsimp only at hway
      rcases hway with ⟨h3, h4⟩ | ⟨h0, h3, h4⟩ | ⟨h0, h3, h5, h4⟩ | ⟨h0, h3, h5, h4⟩
      · have HN := Lib.hid (seg_no (b := b) (by rw [HC.out, HE0.out, h4]; rfl))
        clear h4
        go_enter Try.func69, Try.ntmps69
        go_wp2_with (first
          | (go_at_call 93; (with_reducible refine (refscan_any A n c b w H.out h1 h2 hz).mono ?_); rintro e w1 ⟨v1, S1, rfl, own1, bel1⟩; rw [← HK.out]; rw [← HL.out] at own1; have hne : L ≠ [] := (by rw [HLE.out]; simp); obtain ⟨g1, c1, rfl, -⟩ := own1.form1 hne; obtain ⟨A1, c1', hv1, l1, m1, sl1⟩ := own1.isSl (S' := (· < w1.heap.size)) (fun q hq => own1.1 q hq) (fun _ _ h => h); injection hv1 with e1 _ e2; subst e1 e2; rw [← HN1.out] at sl1 l1 ⊢; have SL1 := Lib.hid sl1; have B1 := Lib.hid bel1; rw [HLE.out] at sl1; obtain ⟨b1, o1, A3, n3, c3, hA3, hb3, s3, l3, m3, hc3⟩ := sl1.first; injection hA3 with hA3; injection hA3 with e3 e4 _; subst e3 e4; have S3 := Lib.hid s3; clear own1 sl1 bel1 hne s3)
          | (go_at_call 63; (with_reducible refine (refdecode_any A3 n3 c3 p w1 S3.out l3 m3).mono ?_); rintro e w2 ⟨v2, rfl, own2, bel2⟩; rw [HE0.out]; rw [HF.out] at own2; obtain ⟨A4, c4, rfl, l4, m4, sl4⟩ := own2.isSlB; obtain ⟨b4, off4, rfl, hb4, hk0, hk1⟩ := sl4.fld1; clear sl4; have B2 := Lib.hid (B1.out.trans (bel2.mono B1.out.size)); have SL2 := Lib.hid (show IsSl (sliceRep byteRep) w2 (· < w2.heap.size) (some ⟨g1, 0, none⟩) n1 L from (SL1.out.below bel2).more bel2.size); clear own2 bel2)
          | fail)
        refine bodyPost_ret (by simp [results, Try.results69, go_sem]; try rfl) rfl ?_
        rw [HN.out.1, HN.out.2.1, HN.out.2.2.1, HN.out.2.2.2]
        exact ⟨none, 0, 0, rfl, IsSl.nil, Nat.le_refl _, Nat.zero_le _, B2.out⟩
      · have HN := Lib.hid (seg_no (b := b) (by rw [HC.out, HE0.out, h4]; rfl))
        clear h4
        subst h0
        go_enter Try.func69, Try.ntmps69
        go_wp2_with (first
          | (go_at_call 93; (with_reducible refine (refscan_any A n c b w H.out h1 h2 hz).mono ?_); rintro e w1 ⟨v1, S1, rfl, own1, bel1⟩; rw [← HK.out]; rw [← HL.out] at own1; have hne : L ≠ [] := (by rw [HLE.out]; simp); obtain ⟨g1, c1, rfl, -⟩ := own1.form1 hne; obtain ⟨A1, c1', hv1, l1, m1, sl1⟩ := own1.isSl (S' := (· < w1.heap.size)) (fun q hq => own1.1 q hq) (fun _ _ h => h); injection hv1 with e1 _ e2; subst e1 e2; rw [← HN1.out] at sl1 l1 ⊢; have SL1 := Lib.hid sl1; have B1 := Lib.hid bel1; rw [HLE.out] at sl1; obtain ⟨b1, o1, A3, n3, c3, hA3, hb3, s3, l3, m3, hc3⟩ := sl1.first; injection hA3 with hA3; injection hA3 with e3 e4 _; subst e3 e4; have S3 := Lib.hid s3; clear own1 sl1 bel1 hne s3)
          | (go_at_call 63; (with_reducible refine (refdecode_any A3 n3 c3 p w1 S3.out l3 m3).mono ?_); rintro e w2 ⟨v2, rfl, own2, bel2⟩; rw [HE0.out]; rw [HF.out] at own2; obtain ⟨A4, c4, rfl, l4, m4, sl4⟩ := own2.isSlB; obtain ⟨b4, off4, rfl, hb4, hk0, hk1⟩ := sl4.fld1; clear sl4; have B2 := Lib.hid (B1.out.trans (bel2.mono B1.out.size)); have SL2 := Lib.hid (show IsSl (sliceRep byteRep) w2 (· < w2.heap.size) (some ⟨g1, 0, none⟩) n1 L from (SL1.out.below bel2).more bel2.size); clear own2 bel2)
          | fail)
        refine bodyPost_ret (by simp [results, Try.results69, go_sem]; try rfl) rfl ?_
        rw [HN.out.1, HN.out.2.1, HN.out.2.2.1, HN.out.2.2.2]
        exact ⟨none, 0, 0, rfl, IsSl.nil, Nat.le_refl _, Nat.zero_le _, B2.out⟩
      · have HN := Lib.hid (seg_no (b := b) (by rw [HC.out, HE0.out, h4]; rfl))
        clear h4
        subst h0
        go_enter Try.func69, Try.ntmps69
        go_wp2_with (first
          | (go_at_call 93; (with_reducible refine (refscan_any A n c b w H.out h1 h2 hz).mono ?_); rintro e w1 ⟨v1, S1, rfl, own1, bel1⟩; rw [← HK.out]; rw [← HL.out] at own1; have hne : L ≠ [] := (by rw [HLE.out]; simp); obtain ⟨g1, c1, rfl, -⟩ := own1.form1 hne; obtain ⟨A1, c1', hv1, l1, m1, sl1⟩ := own1.isSl (S' := (· < w1.heap.size)) (fun q hq => own1.1 q hq) (fun _ _ h => h); injection hv1 with e1 _ e2; subst e1 e2; rw [← HN1.out] at sl1 l1 ⊢; have SL1 := Lib.hid sl1; have B1 := Lib.hid bel1; rw [HLE.out] at sl1; obtain ⟨b1, o1, A3, n3, c3, hA3, hb3, s3, l3, m3, hc3⟩ := sl1.first; injection hA3 with hA3; injection hA3 with e3 e4 _; subst e3 e4; have S3 := Lib.hid s3; clear own1 sl1 bel1 hne s3)
          | (go_at_call 63; (with_reducible refine (refdecode_any A3 n3 c3 p w1 S3.out l3 m3).mono ?_); rintro e w2 ⟨v2, rfl, own2, bel2⟩; rw [HE0.out]; rw [HF.out] at own2; obtain ⟨A4, c4, rfl, l4, m4, sl4⟩ := own2.isSlB; obtain ⟨b4, off4, rfl, hb4, hk0, hk1⟩ := sl4.fld1; clear sl4; have B2 := Lib.hid (B1.out.trans (bel2.mono B1.out.size)); have SL2 := Lib.hid (show IsSl (sliceRep byteRep) w2 (· < w2.heap.size) (some ⟨g1, 0, none⟩) n1 L from (SL1.out.below bel2).more bel2.size); clear own2 bel2)
          | fail)
        refine bodyPost_ret (by simp [results, Try.results69, go_sem]; try rfl) rfl ?_
        rw [HN.out.1, HN.out.2.1, HN.out.2.2.1, HN.out.2.2.2]
        exact ⟨none, 0, 0, rfl, IsSl.nil, Nat.le_refl _, Nat.zero_le _, B2.out⟩
      · have hyes := seg_yes (b := b) (by rw [HC.out, HE0.out, h4]; rfl)
        rw [← HL.out, ← HK.out, HNL.out] at hyes
        have HZ := Lib.hid hyes
        clear h4 hyes
        subst h0
        go_enter Try.func69, Try.ntmps69
        go_upto_region 7 with (first
          | (go_at_call 93; (with_reducible refine (refscan_any A n c b w H.out h1 h2 hz).mono ?_); rintro e w1 ⟨v1, S1, rfl, own1, bel1⟩; rw [← HK.out]; rw [← HL.out] at own1; have hne : L ≠ [] := (by rw [HLE.out]; simp); obtain ⟨g1, c1, rfl, -⟩ := own1.form1 hne; obtain ⟨A1, c1', hv1, l1, m1, sl1⟩ := own1.isSl (S' := (· < w1.heap.size)) (fun q hq => own1.1 q hq) (fun _ _ h => h); injection hv1 with e1 _ e2; subst e1 e2; rw [← HN1.out] at sl1 l1 ⊢; have SL1 := Lib.hid sl1; have B1 := Lib.hid bel1; rw [HLE.out] at sl1; obtain ⟨b1, o1, A3, n3, c3, hA3, hb3, s3, l3, m3, hc3⟩ := sl1.first; injection hA3 with hA3; injection hA3 with e3 e4 _; subst e3 e4; have S3 := Lib.hid s3; clear own1 sl1 bel1 hne s3)
          | (go_at_call 63; (with_reducible refine (refdecode_any A3 n3 c3 p w1 S3.out l3 m3).mono ?_); rintro e w2 ⟨v2, rfl, own2, bel2⟩; rw [HE0.out]; rw [HF.out] at own2; obtain ⟨A4, c4, rfl, l4, m4, sl4⟩ := own2.isSlB; obtain ⟨b4, off4, rfl, hb4, hk0, hk1⟩ := sl4.fld1; clear sl4; have B2 := Lib.hid (B1.out.trans (bel2.mono B1.out.size)); have SL2 := Lib.hid (show IsSl (sliceRep byteRep) w2 (· < w2.heap.size) (some ⟨g1, 0, none⟩) n1 L from (SL1.out.below bel2).more bel2.size); clear own2 bel2)
          | fail)
        have hl1 : n1 ≤ c1 := l1
        have h1n : (1 : Int) ≤ (n1 : Int) := by omega
        have h1c : (1 : Int) ≤ (c1 : Int) := by omega
        have hnc : (n1 : Int) ≤ (c1 : Int) := by omega
        by_cases hc : c1 = 1
        · subst hc
          obtain rfl : n1 = 1 := by omega
          go_quiet (fail)
          go_wp2_with fail
          refine bodyPost_ret (by simp [results, Try.results69, go_sem]; try rfl) rfl ?_
          rw [HZ.out.1, HZ.out.2.1, HZ.out.2.2.1, HZ.out.2.2.2]
          exact ⟨some ⟨g1, 0, none⟩, 0, 0, rfl, (rows_end SL2.out).keep (fun _ _ => rfl), Nat.le_refl _, Nat.zero_le _, below_drewN B2.out nq⟩
        · have hc2 : ((c1 : Int) == 1) = false := by simp; omega
          have hc3 : ¬ (c1 : Int) = 1 := by omega
          have hc4 : ¬ (1 : Int) = (c1 : Int) := by omega
          go_quiet (fail)
          go_wp2_with fail
          refine bodyPost_ret (by simp [results, Try.results69, go_sem]; try rfl) rfl ?_
          rw [HZ.out.1, HZ.out.2.1, HZ.out.2.2.1, HZ.out.2.2.2]
          exact ⟨some ⟨g1, 1, none⟩, n1 - 1, c1 - 1, rfl, (rows_tail SL2.out (by omega)).keep (fun _ _ => rfl), by omega, by omega, below_drewN B2.out nq⟩
end Go.Proofs.Ytcohheoahdbgmaa
