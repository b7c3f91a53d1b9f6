/- The walk of the law SegHeads. Written by gen_segw.py. -/
import Derived.Test.YtcohheoahdbgmaaSeg4
import Derived.Test.YtcohheoahdbgmaaFldA
import Derived.Test.YtcohheoahdbgmaaMemK
import Derived.Test.YtcohheoahdbgmaaMemB
import Derived.Test.YtcohheoahdbgmaaFld6
import Derived.Test.YtcohheoahdbgmaaPlay
import Derived.Deep.Cut
set_option linter.unusedVariables false
set_option linter.unusedSimpArgs false
set_option maxRecDepth 100000
namespace Go.Proofs.Ytcohheoahdbgmaa
open Go.RowKit

theorem bel_next {w w1 w2 : World} (h : Below w.heap.size w w1) (h' : Below w1.heap.size w1 w2) : Below w.heap.size w w2 := h.trans (h'.mono h.size)
theorem IsSl.aft {α : Type} {R : Rep α} {w w' : World} {A : Option Addr} {n : Nat} {l : List α} (h : IsSl R w (· < w.heap.size) A n l) (hb : Below w.heap.size w w') : IsSl R w' (· < w'.heap.size) A n l := (h.below hb).more hb.size

set_option maxHeartbeats 4000000 in
theorem segHeads_walk (w : World) (f : Int) (hf : I64 f) :
    Calls Try.prog 9 #[.int .i64 f] w fun e w' => e = .returned (.bool true) ∧ Below w.heap.size w w' := by
  go_enter Try.func9, Try.ntmps9
  go_wp2_with (first
    | (go_at_call 30; (with_reducible refine (segHead_any f hf w).mono ?_); rintro e w1 ⟨v1, rfl, own1, bel1⟩; obtain ⟨A1, c1, rfl, l1, m1, sl1⟩ := own1.isSlB; have SL1 := Lib.hid sl1; have B1 := Lib.hid bel1; clear own1 sl1 bel1)
    | (go_at_call 31; (with_reducible refine (refsegHead_any f hf w1).mono ?_); rintro e w2 ⟨v2, rfl, own2, bel2⟩; obtain ⟨A2, c2, rfl, l2, m2, sl2⟩ := own2.isSlB; have SL2 := Lib.hid sl2; have SL12 := Lib.hid (SL1.out.aft bel2); have B2 := Lib.hid (bel_next B1.out bel2); clear own2 sl2 bel2)
    | (go_at_call 32; (with_reducible refine (awake05 w2).mono ?_); rintro e w3 ⟨rfl, bel3⟩; have SL13 := Lib.hid (SL12.out.aft bel3); have SL23 := Lib.hid (SL2.out.aft bel3); have B3 := Lib.hid (bel_next B2.out bel3); clear bel3)
    | (go_at_call 22; (with_reducible refine (bytes_any _ _ _ _ _ _ (headV f) _ _ _ SL13.out SL23.out).mono ?_); rintro e w' ⟨rfl, rfl⟩)
    | fail)
  go_ret
  exact ⟨rfl, B3.out⟩

theorem IsSl.no {α : Type} {R : Rep α} {w : World} {S : Nat → Prop} {A : Option Addr} {l : List α} (h : l = []) : IsSl R w S A 0 l := by subst h; exact IsSl.nil

set_option maxHeartbeats 8000000 in
theorem segReads_walk (w : World) (f : Int) (hf : I64 f) (A : Option Addr) (n c : Nat) (b : List UInt8) (h : IsSl byteRep w (· < w.heap.size) A n b) (h1 : n ≤ c) (h2 : c ≤ maxLen) (hz : c ≤ 1048576) :
    Calls Try.prog 10 #[.int .i64 f, .slice A n c] w fun e w' => e = .returned (.bool true) ∧ Below w.heap.size w w' := by
  obtain ⟨i0, hi, hz0, hz1, hz2⟩ := info_parts info_byte
  have HH := Lib.hid h
  have HL := Lib.hid h.len
  have hqr := modOf_range f 1099511627776 (by omega)
  obtain ⟨q, hq⟩ : ∃ q, q = modOf f 1099511627776 := ⟨_, rfl⟩
  rw [← hq] at hqr
  have HQ := Lib.hid hq
  obtain ⟨k, hk⟩ : ∃ k, k = 1 + q := ⟨_, rfl⟩
  have HK := Lib.hid hk
  have HKI := Lib.hid (show I64 k by unfold I64; omega)
  obtain ⟨P, hP⟩ : ∃ P, P = bytesV k [] := ⟨_, rfl⟩
  have hPl : P.length ≤ 31457539 := by rw [hP]; exact (bytesV_len k []).2
  have HP := Lib.hid hP
  clear h hq hk hP
  go_enter Try.func10, Try.ntmps10
  go_wp2_with (first
    | (go_at_call 23; (with_reducible refine (big_any f 1099511627776 _ (by omega) (by omega)).mono ?_); rintro e w' ⟨rfl, rfl⟩; rw [← HQ.out])
    | (go_at_call 33; rw [← HK.out]; (with_reducible refine (bytes05_any k HKI.out none 0 0 [] w IsSl.nil).mono ?_); rintro e w1 ⟨v1, rfl, own1, bel1⟩; rw [← HP.out] at own1; obtain ⟨A1, c1, rfl, l1, m1, sl1⟩ := own1.isSlB; have OW1 := Lib.hid own1; have H1 := Lib.hid (HH.out.aft bel1); have B1 := Lib.hid bel1; clear own1 sl1 bel1)
    | (go_at_call 32; (with_reducible refine (awake05 w1).mono ?_); rintro e w2 ⟨rfl, bel2⟩; have OW2 := Lib.hid (OW1.out.below bel2); have H2 := Lib.hid (H1.out.aft bel2); have B2 := Lib.hid (bel_next B1.out bel2); clear bel2)
    | (go_at_call 34; (with_reducible refine (alike05_any A n c b w2 H2.out h1 h2 (by omega)).mono ?_); rintro e w3 ⟨rfl, bel3⟩; have OW3 := Lib.hid (OW2.out.below bel3); have H3 := Lib.hid (H2.out.aft bel3); have B3 := Lib.hid (bel_next B2.out bel3); clear bel3)
    | (at_builtin; refine wpList_append_OwnG _ (by rfl) _ _ 35 rfl w.heap.size 5 i0 _ 1 Try.underlying35 hi hz0 hz1 hz2 rfl (R := byteRep) (S := fun _ => False) (l := P) (l' := b) _ rfl OW3.out A n c rfl (H3.out.srcF flat_byte (Below.refl _ _)) (by simp only [maxLen]; omega) (by omega) (by omega) B3.out.size ?_; intro v4 w4 own4 gr4 at4; obtain ⟨A4, c4, rfl, l4, m4, sl4⟩ := own4.isSlB; obtain ⟨n4, hn4⟩ : ∃ n4, n4 = (P ++ b).length := ⟨_, rfl⟩; have hn4b : n4 ≤ 32506115 := (by rw [hn4, List.length_append, ← HL.out]; omega); rw [← hn4] at sl4 l4 ⊢; have SL4 := Lib.hid sl4; have B4 := Lib.hid (B3.out.grown gr4 B3.out.size (fun g hg => OW3.out.row_ge hg)); clear own4 gr4 at4 sl4 hn4)
    | (go_at_call 34; (with_reducible refine (alike05_any A4 n4 c4 (P ++ b) w4 SL4.out l4 m4 (by omega)).mono ?_); rintro e w5 ⟨rfl, bel5⟩; have B5 := Lib.hid (bel_next B4.out bel5); clear bel5)
    | fail)
  go_ret
  exact ⟨rfl, B5.out⟩

set_option maxHeartbeats 8000000 in
theorem segTurned_walk (w : World) (f : Int) (hf : I64 f) (A : Option Addr) (n c : Nat) (L : List (List UInt8)) (h : IsSl (sliceRep byteRep) w (· < w.heap.size) A n L) (h1 : n ≤ c) (h2 : c ≤ maxLen) (at_ : Int) (_ : I64 at_) (m : Int) (hm : (Lit.int .u8 m).wf = true) :
    Calls Try.prog 12 #[.int .i64 f, .slice A n c, .int .i64 at_, .int .u8 m] w fun e w' => e = .returned (.bool true) ∧ Below w.heap.size w w' := by
  obtain ⟨mb, rfl⟩ : ∃ mb : UInt8, m = (mb.toNat : Int) := by
    simp [Lit.wf, IntKind.min, IntKind.max, IntKind.bits, IntKind.signed] at hm
    refine ⟨UInt8.ofNat m.toNat, ?_⟩
    rw [UInt8.toNat_ofNat']
    omega
  have HH := Lib.hid h
  have hqr := modOf_range f 1099511627776 (by omega)
  obtain ⟨q0, hq0⟩ : ∃ q, q = modOf f 1099511627776 := ⟨_, rfl⟩
  rw [← hq0] at hqr
  have HQ0 := Lib.hid hq0
  obtain ⟨k, hk⟩ : ∃ k, k = 1 + q0 := ⟨_, rfl⟩
  have HK := Lib.hid hk
  have HKI := Lib.hid (show I64 k by unfold I64; omega)
  obtain ⟨B, hB⟩ : ∃ B, B = bytesV k L := ⟨_, rfl⟩
  obtain ⟨N, hN⟩ : ∃ N, N = B.length := ⟨_, rfl⟩
  have hN1 : 19 ≤ N ∧ N ≤ 31457539 := by rw [hN, hB]; have := bytesV_len k L; rw [(headV_yes (f := k) ⟨by omega, by omega⟩).2.2] at this; exact this
  have HB := Lib.hid hB
  have HN := Lib.hid hN
  have hcm := modOf_range at_ (N : Int) (by omega)
  obtain ⟨q, hq⟩ := Int.eq_ofNat_of_zero_le hcm.1
  have hq2 : q < N := by omega
  have HQ := Lib.hid hq
  obtain ⟨xq, hxq⟩ : ∃ x, B[q]? = some x := ⟨_, List.getElem?_eq_getElem (by omega)⟩
  have HXQ := Lib.hid hxq
  have hBne : B ≠ [] := by rintro rfl; simp at hxq
  have HBN := Lib.hid hBne
  have HADD := Lib.hid (show ((xq.toNat : Int) + (mb.toNat : Int)) % 256 = ((xq + mb).toNat : Int) by rw [UInt8.toNat_add]; omega)
  obtain ⟨C, hC⟩ : ∃ C, C = B.set q (xq + mb) := ⟨_, rfl⟩
  have HCL := Lib.hid (show C.length = N by rw [hC, List.length_set, hN])
  have HC := Lib.hid hC
  clear hm h hq0 hk hB hN hcm hq hxq hBne hC
  go_enter Try.func12, Try.ntmps12
  go_upto_region 3 with (first
    | (go_at_call 23; (with_reducible refine (big_any f 1099511627776 _ (by omega) (by omega)).mono ?_); rintro e w' ⟨rfl, rfl⟩; rw [← HQ0.out])
    | (go_at_call 33; rw [← HK.out]; (with_reducible refine (bytes05_any k HKI.out A n c L w HH.out).mono ?_); rintro e w2 ⟨v2, rfl, own2, bel2⟩; rw [← HB.out] at own2; obtain ⟨g, cap, rfl, hgB, hgl, hcp1, hcp2⟩ := own2.form1 HBN.out; rw [← HN.out] at hcp1 own2 ⊢; have OW3 := Lib.hid own2; obtain ⟨hcell, hfroz⟩ := own_byte own2 HXQ.out; have B2 := Lib.hid bel2; clear own2 bel2)
    | (go_at_call 17; (with_reducible refine (mod_any at_ (N : Int) _ (by omega) (by omega)).mono ?_); rintro e w' ⟨rfl, rfl⟩; rw [HQ.out])
    | fail)
  rw [HADD.out]
  obtain ⟨W, hW⟩ : ∃ W, W = w2.setCell ⟨g, q, none⟩ (.int .u8 ((xq + mb).toNat : Int)) := ⟨_, rfl⟩
  have hown := own_byte_set (xq + mb) OW3.out HXQ.out
  rw [← HC.out, ← hW] at hown
  have hbW : Below w.heap.size w W := by rw [hW]; exact B2.out.setCell (p := ⟨g, q, none⟩) hgB _
  obtain ⟨AW, cW, hvW, lW, mW, slW⟩ := hown.isSlB
  rw [HCL.out] at hvW slW lW
  injection hvW with hAW _ hcW
  subst hAW hcW
  have SW := Lib.hid slW
  have BW := Lib.hid hbW
  rw [← hW]
  clear hW hown hbW slW hcell hfroz
  go_wp2_with (first
    | (go_at_call 32; (with_reducible refine (awake05 W).mono ?_); rintro e w3 ⟨rfl, bel3⟩; have SW3 := Lib.hid (SW.out.aft bel3); have B3 := Lib.hid (bel_next BW.out bel3); clear bel3)
    | (go_at_call 34; (with_reducible refine (alike05_any (some ⟨g, 0, none⟩) N cap C w3 SW3.out lW mW (by omega)).mono ?_); rintro e w4 ⟨rfl, bel4⟩; have B4 := Lib.hid (bel_next B3.out bel4); clear bel4)
    | fail)
  go_ret
  exact ⟨rfl, B4.out⟩

set_option maxHeartbeats 4000000 in
theorem one05_any (A : Option Addr) (n c : Nat) (b : List UInt8) (w : World) (h : IsSl byteRep w (· < w.heap.size) A n b) (h1 : n ≤ c) (h2 : c ≤ maxLen) (hz : n ≤ 35184372088832) (hb : segOk b = false) :
    Calls Try.prog 38 #[.slice A n c] w fun e w' => e = .returned (.bool true) ∧ Below w.heap.size w w' := by
  have HH := Lib.hid h
  have HN := Lib.hid (seg_no hb)
  clear h hb
  go_enter Try.func38, Try.ntmps38
  go_wp2_with (first
    | (go_at_call 35; (with_reducible refine (segRead_any A n c b w HH.out h1 h2 hz).mono ?_); rintro e w5 ⟨A5, n5, c5, rfl, s5, l5, m5, bel5⟩; rw [HN.out.2.2.2]; have B5 := Lib.hid bel5; clear s5 bel5)
    | fail)
  go_ret
  exact ⟨rfl, B5.out⟩

theorem IsSl.flds_wf {w : World} {S : Nat → Prop} {A : Option Addr} {n : Nat} {l : List Fld} (h : IsSl fldRep w S A n l) : ∀ f ∈ l, f.wf := by
  intro f hf
  obtain ⟨k, hk, hx⟩ := List.getElem_of_mem hf
  obtain ⟨b, off, a, cs, -, -, ha, ⟨-, hw⟩, -⟩ := h.at_ (k := k) (by rw [h.len]; exact hk)
  rw [List.getElem?_eq_getElem hk, hx] at ha
  obtain rfl := Option.some.inj ha
  exact hw

theorem encV_len200 {l : List Fld} (h : l.length ≤ 200) : (encV l).length ≤ 1048576 := by
  unfold encV encO
  split
  · rename_i hok
    show (bigB l.length 2 ++ encL l).length ≤ 1048576
    rw [List.length_append, bigB_len]
    have := encL_len hok.2
    omega
  · show ([] : List UInt8).length ≤ 1048576
    simp

set_option maxHeartbeats 16000000 in
theorem segHeadless_walk (w : World) (A' : Option Addr) (n' c' : Nat) (l : List Fld) (h' : IsSl fldRep w (· < w.heap.size) A' n' l) (h1' : n' ≤ c') (h2' : c' ≤ maxLen) (hz' : c' ≤ 1048576) (A : Option Addr) (n c : Nat) (b : List UInt8) (h : IsSl byteRep w (· < w.heap.size) A n b) (h1 : n ≤ c) (h2 : c ≤ maxLen) (hz : c ≤ 1048576) :
    Calls Try.prog 13 #[.slice A' n' c', .slice A n c] w fun e w' => e = .returned (.bool true) ∧ Below w.heap.size w w' := by
  obtain ⟨i0, hi, hz0, hz1, hz2⟩ := info_parts info_byte
  have HH := Lib.hid h
  have HL := Lib.hid h.len
  have HH' := Lib.hid h'
  have HL' := Lib.hid h'.len
  have HWF := Lib.hid h'.flds_wf
  clear h h'
  by_cases hbig : 200 < n'
  · have hdb : decide (200 < (n' : Int)) = true := decide_eq_true (by omega)
    go_enter Try.func13, Try.ntmps13
    go_wp2_with (go_at_call 32; (with_reducible refine (awake05 _).mono ?_); rintro e w1 ⟨rfl, hb1⟩; have B1 := Lib.hid hb1; clear hb1)
    go_ret
    exact ⟨rfl, B1.out⟩
  · have hdb : decide (200 < (n' : Int)) = false := decide_eq_false (by omega)
    have hl200 : l.length ≤ 200 := by rw [← HL'.out]; omega
    have HEL := Lib.hid (encV_len200 hl200)
    by_cases he : encE l = 0
    · have HE := Lib.hid he
      obtain ⟨P, hP⟩ : ∃ P, P = putV (encV l) := ⟨_, rfl⟩
      have hPl : P.length ≤ 1048584 := by rw [hP]; exact putV_len _
      have HP := Lib.hid hP
      have hone : n' = 1 ∨ (n' ≠ 1 ∧ segOk P = false) := by
        by_cases h1 : n' = 1
        · exact .inl h1
        · exact .inr ⟨h1, by rw [hP]; exact seg_none (segOkL_many hl200 he (by rw [← HL'.out]; exact h1) HWF.out)⟩
      clear he hP hbig
      rcases hone with hone | ⟨hone, hno⟩
      · subst hone
        go_enter Try.func13, Try.ntmps13
        go_wp2_with (first
          | (go_at_call 26; (with_reducible refine (refencode_any A' 1 c' l w HH'.out (by omega)).mono ?_); rintro e w1 ⟨v1, rfl, own1, bel1⟩; rw [HE.out]; obtain ⟨A1, c1, rfl, l1, m1, sl1⟩ := own1.isSlB; obtain ⟨q1, hq1⟩ : ∃ q, q = (encV l).length := ⟨_, rfl⟩; rw [← hq1] at sl1 l1 ⊢; have SL1 := Lib.hid sl1; have H1 := Lib.hid (HH.out.aft bel1); have B1 := Lib.hid bel1; clear own1 sl1 bel1 hq1)
          | (go_at_call 37; (with_reducible refine (refput_any A1 q1 c1 (encV l) w1 SL1.out l1 m1).mono ?_); rintro e w2 ⟨v2, rfl, own2, bel2⟩; rw [← HP.out] at own2; obtain ⟨A2, c2, rfl, l2, m2, sl2⟩ := own2.isSlB; have OW2 := Lib.hid (own2.mono B1.out.size); have SL2 := Lib.hid sl2; have H2 := Lib.hid (H1.out.aft bel2); have B2 := Lib.hid (bel_next B1.out bel2); clear own2 sl2 bel2)
          | (go_at_call 32; (with_reducible refine (awake05 w2).mono ?_); rintro e w3 ⟨rfl, bel3⟩; have OW3 := Lib.hid (OW2.out.below bel3); have SL3 := Lib.hid (SL2.out.aft bel3); have H3 := Lib.hid (H2.out.aft bel3); have B3 := Lib.hid (bel_next B2.out bel3); clear bel3)
          | (at_builtin; refine wpList_append_OwnG _ (by rfl) _ _ 35 rfl w.heap.size 5 i0 _ 1 Try.underlying35 hi hz0 hz1 hz2 rfl (R := byteRep) (S := fun _ => False) (l := P) (l' := b) _ rfl OW3.out A n c rfl (H3.out.srcF flat_byte (Below.refl _ _)) (by simp only [maxLen]; omega) (by omega) (by omega) B3.out.size ?_; intro v4 w4 own4 gr4 at4; obtain ⟨A4, c4, rfl, l4, m4, sl4⟩ := own4.isSlB; obtain ⟨n4, hn4⟩ : ∃ n4, n4 = (P ++ b).length := ⟨_, rfl⟩; have hn4b : n4 ≤ 2097160 := (by rw [hn4, List.length_append, ← HL.out]; omega); rw [← hn4] at sl4 l4 ⊢; have SL4 := Lib.hid sl4; have B4 := Lib.hid (B3.out.grown gr4 B3.out.size (fun g hg => OW3.out.row_ge hg)); clear own4 gr4 at4 sl4 hn4)
          | (go_at_call 34; (with_reducible refine (alike05_any A4 n4 c4 (P ++ b) w4 SL4.out l4 m4 (by omega)).mono ?_); rintro e w5 ⟨rfl, bel5⟩; have B5 := Lib.hid (bel_next B4.out bel5); clear bel5)
          | fail)
        go_ret
        exact ⟨rfl, B5.out⟩
      · have hd1 : ((n' : Int) == 1) = false := by simp; omega
        have HNO := Lib.hid hno
        clear hno
        go_enter Try.func13, Try.ntmps13
        go_wp2_with (first
          | (go_at_call 26; (with_reducible refine (refencode_any A' n' c' l w HH'.out (by omega)).mono ?_); rintro e w1 ⟨v1, rfl, own1, bel1⟩; rw [HE.out]; obtain ⟨A1, c1, rfl, l1, m1, sl1⟩ := own1.isSlB; obtain ⟨q1, hq1⟩ : ∃ q, q = (encV l).length := ⟨_, rfl⟩; rw [← hq1] at sl1 l1 ⊢; have SL1 := Lib.hid sl1; have H1 := Lib.hid (HH.out.aft bel1); have B1 := Lib.hid bel1; clear own1 sl1 bel1 hq1)
          | (go_at_call 37; (with_reducible refine (refput_any A1 q1 c1 (encV l) w1 SL1.out l1 m1).mono ?_); rintro e w2 ⟨v2, rfl, own2, bel2⟩; rw [← HP.out] at own2; obtain ⟨A2, c2, rfl, l2, m2, sl2⟩ := own2.isSlB; have OW2 := Lib.hid (own2.mono B1.out.size); have SL2 := Lib.hid sl2; have H2 := Lib.hid (H1.out.aft bel2); have B2 := Lib.hid (bel_next B1.out bel2); clear own2 sl2 bel2)
          | (go_at_call 32; (with_reducible refine (awake05 w2).mono ?_); rintro e w3 ⟨rfl, bel3⟩; have OW3 := Lib.hid (OW2.out.below bel3); have SL3 := Lib.hid (SL2.out.aft bel3); have H3 := Lib.hid (H2.out.aft bel3); have B3 := Lib.hid (bel_next B2.out bel3); clear bel3)
          | (at_builtin; refine wpList_append_OwnG _ (by rfl) _ _ 35 rfl w.heap.size 5 i0 _ 1 Try.underlying35 hi hz0 hz1 hz2 rfl (R := byteRep) (S := fun _ => False) (l := P) (l' := b) _ rfl OW3.out A n c rfl (H3.out.srcF flat_byte (Below.refl _ _)) (by simp only [maxLen]; omega) (by omega) (by omega) B3.out.size ?_; intro v4 w4 own4 gr4 at4; obtain ⟨A4, c4, rfl, l4, m4, sl4⟩ := own4.isSlB; obtain ⟨n4, hn4⟩ : ∃ n4, n4 = (P ++ b).length := ⟨_, rfl⟩; have hn4b : n4 ≤ 2097160 := (by rw [hn4, List.length_append, ← HL.out]; omega); rw [← hn4] at sl4 l4 ⊢; have SL4 := Lib.hid sl4; have B4 := Lib.hid (B3.out.grown gr4 B3.out.size (fun g hg => OW3.out.row_ge hg)); have SP4 := Lib.hid (app_keep OW3.out own4 gr4 at4); clear own4 gr4 at4 sl4 hn4)
          | (go_at_call 34; (with_reducible refine (alike05_any A4 n4 c4 (P ++ b) w4 SL4.out l4 m4 (by omega)).mono ?_); rintro e w5 ⟨rfl, bel5⟩; have SP5 := Lib.hid (SP4.out.aft bel5); have B5 := Lib.hid (bel_next B4.out bel5); clear bel5)
          | (go_at_call 38; (with_reducible refine (one05_any A2 P.length c2 P w5 SP5.out l2 m2 (by omega) HNO.out).mono ?_); rintro e w6 ⟨rfl, bel6⟩; have B6 := Lib.hid (bel_next B5.out bel6); clear bel6)
          | fail)
        go_ret
        exact ⟨rfl, B6.out⟩
    · have he2 : encE l = 1 := by unfold encE at he ⊢; split at he <;> simp_all
      have HE := Lib.hid he2
      obtain ⟨P, hP⟩ : ∃ P, P = putV b := ⟨_, rfl⟩
      have hPl : P.length ≤ 1048584 := by rw [hP]; exact putV_len _
      have HP := Lib.hid hP
      have hd1 : ((n' : Int) == 1) = true ∨ ((n' : Int) == 1) = false := by cases (n' : Int) == 1 <;> simp
      clear he he2 hP hbig
      rcases hd1 with hd1 | hd1
      · obtain rfl : n' = 1 := by simp at hd1; omega
        go_enter Try.func13, Try.ntmps13
        go_wp2_with (first
          | (go_at_call 26; (with_reducible refine (refencode_any A' 1 c' l w HH'.out (by omega)).mono ?_); rintro e w1 ⟨v1, rfl, own1, bel1⟩; rw [HE.out]; obtain ⟨A1, c1, rfl, l1, m1, sl1⟩ := own1.isSlB; obtain ⟨q1, hq1⟩ : ∃ q, q = (encV l).length := ⟨_, rfl⟩; rw [← hq1] at sl1 l1 ⊢; have SL1 := Lib.hid sl1; have H1 := Lib.hid (HH.out.aft bel1); have B1 := Lib.hid bel1; clear own1 sl1 bel1 hq1)
          | (go_at_call 37; (with_reducible refine (refput_any A n c b w1 H1.out h1 h2).mono ?_); rintro e w2 ⟨v2, rfl, own2, bel2⟩; rw [← HP.out] at own2; obtain ⟨A2, c2, rfl, l2, m2, sl2⟩ := own2.isSlB; have OW2 := Lib.hid (own2.mono B1.out.size); have SL2 := Lib.hid sl2; have H2 := Lib.hid (H1.out.aft bel2); have B2 := Lib.hid (bel_next B1.out bel2); clear own2 sl2 bel2)
          | (go_at_call 32; (with_reducible refine (awake05 w2).mono ?_); rintro e w3 ⟨rfl, bel3⟩; have OW3 := Lib.hid (OW2.out.below bel3); have SL3 := Lib.hid (SL2.out.aft bel3); have H3 := Lib.hid (H2.out.aft bel3); have B3 := Lib.hid (bel_next B2.out bel3); clear bel3)
          | (at_builtin; refine wpList_append_OwnG _ (by rfl) _ _ 35 rfl w.heap.size 5 i0 _ 1 Try.underlying35 hi hz0 hz1 hz2 rfl (R := byteRep) (S := fun _ => False) (l := P) (l' := b) _ rfl OW3.out A n c rfl (H3.out.srcF flat_byte (Below.refl _ _)) (by simp only [maxLen]; omega) (by omega) (by omega) B3.out.size ?_; intro v4 w4 own4 gr4 at4; obtain ⟨A4, c4, rfl, l4, m4, sl4⟩ := own4.isSlB; obtain ⟨n4, hn4⟩ : ∃ n4, n4 = (P ++ b).length := ⟨_, rfl⟩; have hn4b : n4 ≤ 2097160 := (by rw [hn4, List.length_append, ← HL.out]; omega); rw [← hn4] at sl4 l4 ⊢; have SL4 := Lib.hid sl4; have B4 := Lib.hid (B3.out.grown gr4 B3.out.size (fun g hg => OW3.out.row_ge hg)); clear own4 gr4 at4 sl4 hn4)
          | (go_at_call 34; (with_reducible refine (alike05_any A4 n4 c4 (P ++ b) w4 SL4.out l4 m4 (by omega)).mono ?_); rintro e w5 ⟨rfl, bel5⟩; have B5 := Lib.hid (bel_next B4.out bel5); clear bel5)
          | fail)
        go_ret
        exact ⟨rfl, B5.out⟩
      · go_enter Try.func13, Try.ntmps13
        go_wp2_with (first
          | (go_at_call 26; (with_reducible refine (refencode_any A' n' c' l w HH'.out (by omega)).mono ?_); rintro e w1 ⟨v1, rfl, own1, bel1⟩; rw [HE.out]; obtain ⟨A1, c1, rfl, l1, m1, sl1⟩ := own1.isSlB; obtain ⟨q1, hq1⟩ : ∃ q, q = (encV l).length := ⟨_, rfl⟩; rw [← hq1] at sl1 l1 ⊢; have SL1 := Lib.hid sl1; have H1 := Lib.hid (HH.out.aft bel1); have B1 := Lib.hid bel1; clear own1 sl1 bel1 hq1)
          | (go_at_call 37; (with_reducible refine (refput_any A n c b w1 H1.out h1 h2).mono ?_); rintro e w2 ⟨v2, rfl, own2, bel2⟩; rw [← HP.out] at own2; obtain ⟨A2, c2, rfl, l2, m2, sl2⟩ := own2.isSlB; have OW2 := Lib.hid (own2.mono B1.out.size); have SL2 := Lib.hid sl2; have H2 := Lib.hid (H1.out.aft bel2); have B2 := Lib.hid (bel_next B1.out bel2); clear own2 sl2 bel2)
          | (go_at_call 32; (with_reducible refine (awake05 w2).mono ?_); rintro e w3 ⟨rfl, bel3⟩; have OW3 := Lib.hid (OW2.out.below bel3); have SL3 := Lib.hid (SL2.out.aft bel3); have H3 := Lib.hid (H2.out.aft bel3); have B3 := Lib.hid (bel_next B2.out bel3); clear bel3)
          | (at_builtin; refine wpList_append_OwnG _ (by rfl) _ _ 35 rfl w.heap.size 5 i0 _ 1 Try.underlying35 hi hz0 hz1 hz2 rfl (R := byteRep) (S := fun _ => False) (l := P) (l' := b) _ rfl OW3.out A n c rfl (H3.out.srcF flat_byte (Below.refl _ _)) (by simp only [maxLen]; omega) (by omega) (by omega) B3.out.size ?_; intro v4 w4 own4 gr4 at4; obtain ⟨A4, c4, rfl, l4, m4, sl4⟩ := own4.isSlB; obtain ⟨n4, hn4⟩ : ∃ n4, n4 = (P ++ b).length := ⟨_, rfl⟩; have hn4b : n4 ≤ 2097160 := (by rw [hn4, List.length_append, ← HL.out]; omega); rw [← hn4] at sl4 l4 ⊢; have SL4 := Lib.hid sl4; have B4 := Lib.hid (B3.out.grown gr4 B3.out.size (fun g hg => OW3.out.row_ge hg)); clear own4 gr4 at4 sl4 hn4)
          | (go_at_call 34; (with_reducible refine (alike05_any A4 n4 c4 (P ++ b) w4 SL4.out l4 m4 (by omega)).mono ?_); rintro e w5 ⟨rfl, bel5⟩; have B5 := Lib.hid (bel_next B4.out bel5); clear bel5)
          | fail)
        go_ret
        exact ⟨rfl, B5.out⟩
end Go.Proofs.Ytcohheoahdbgmaa
