/- Contracts of the law's helpers of layer 5: awake, bytes, alike. Written by gen_seg.py. -/
import Derived.Test.YtcohheoahdbgmaaSeg3
import Derived.Test.YtcohheoahdbgmaaMany
import Derived.Test.YtcohheoahdbgmaaMemB
set_option linter.unusedVariables false
set_option linter.unusedSimpArgs false
set_option maxRecDepth 100000
namespace Go.Proofs.Ytcohheoahdbgmaa
open Go.RowKit

theorem scanF_len5 : ∀ (k : Nat) (b : List UInt8), (scanF k b).1.length * 8 ≤ b.length
  | 0, b => by simp [scanF]
  | k + 1, b => by
    rw [scanF]
    split
    · rename_i e
      obtain ⟨h8, hl⟩ := take_le e
      have ih := scanF_len5 k (b.drop (takeK b))
      rw [List.length_drop] at ih
      simp only [List.length_cons]
      omega
    · simp
theorem segR_len (b : List UInt8) : (segR b).length ≤ b.length := by
  have := scanF_len5 b.length b
  unfold segR
  split
  · rw [List.length_drop]
    have : (scanL b).1.length * 8 ≤ b.length := this
    omega
  · simp
theorem segK_len (b : List UInt8) : True := trivial

theorem head7 : segOk (headV 7) = true ∧ segF (headV 7) = 7 ∧ segR (headV 7) = [] ∧ segK (headV 7) = 19 ∧ segE (headV 7) = 0 ∧ headE 7 = 0 ∧ (headV 7).length = 19 := by
  have h := seg_back (f := 7) ⟨by decide, by decide⟩ (l := []) (fun p hp => by cases hp) (by simp)
  have hb : bytesV 7 [] = headV 7 := by unfold bytesV rowsV; simp
  rw [hb] at h
  have h2 := headV_yes (f := 7) ⟨by decide, by decide⟩
  exact ⟨h.1, h.2.1, h.2.2.1, by rw [h.2.2.2.1]; exact h2.2.2, (seg_yes h.1).2.2.2, h2.1, h2.2.2⟩

set_option maxHeartbeats 4000000 in
theorem awake05 (w : World) :
    Calls Try.prog 32 #[] w fun e w' => e = .returned (.bool true) ∧ Below w.heap.size w w' := by
  have H7 := Lib.hid head7
  obtain ⟨B, hB⟩ : ∃ B, B = headV 7 := ⟨_, rfl⟩
  rw [← hB] at H7
  have HB := Lib.hid hB
  clear hB
  go_enter Try.func32, Try.ntmps32
  go_wp2_with (first
    | (go_at_call 30; (with_reducible refine (segHead_any 7 (by unfold I64; omega) w).mono ?_); rintro e w1 ⟨v1, rfl, own1, bel1⟩; rw [H7.out.2.2.2.2.2.1]; rw [← HB.out] at own1; obtain ⟨A1, c1, rfl, l1, m1, sl1⟩ := own1.isSlB; rw [H7.out.2.2.2.2.2.2] at l1 sl1 ⊢; have SL1 := Lib.hid sl1; have B1 := Lib.hid bel1; clear own1 sl1 bel1)
    | (go_at_call 35; (with_reducible refine (segRead_any A1 19 c1 B w1 SL1.out l1 m1 (by omega)).mono ?_); rintro e w2 ⟨A2, n2, c2, rfl, s2, l2, m2, bel2⟩; rw [H7.out.2.1, H7.out.2.2.2.1, H7.out.2.2.2.2.1]; rw [H7.out.2.2.1] at s2; obtain rfl : n2 = 0 := s2.len; have B2 := Lib.hid (B1.out.trans (bel2.mono B1.out.size)); clear s2 bel2)
    | fail)
  go_ret
  exact ⟨rfl, B2.out⟩

theorem IsSl.rowAt {w w' : World} {S : Nat → Prop} {A : Option Addr} {n k : Nat} {L : List (List UInt8)} (h : IsSl (sliceRep byteRep) w S A n L) (hk : k < n) (hw : ∀ p : Addr, S p.block → w'.cell? p = w.cell? p) :
    ∃ b off p A1 n1 c1, A = some ⟨b, off, none⟩ ∧ S b ∧ L[k]? = some p ∧ IsSl byteRep w' S A1 n1 p ∧ n1 ≤ c1 ∧ c1 ≤ maxLen ∧ w'.cell? ⟨b, off + k, none⟩ = some (.slice A1 n1 c1) := by
  obtain ⟨b, off, a, cs, rfl, hb, ha, ⟨A1, n1, c1, rfl, h1, h2, h3⟩, hc⟩ := h.at_ hk
  exact ⟨b, off, a, A1, n1, c1, rfl, hb, ha, h1.keep hw, h2, h3, (hw _ hb).trans (by have := hc 0 _ rfl; simpa [show (sliceRep byteRep).size = 1 from rfl] using this)⟩

set_option maxHeartbeats 8000000 in
theorem bytes05_any (f : Int) (hf : I64 f) (A : Option Addr) (n c : Nat) (L : List (List UInt8)) (w : World) (h : IsSl (sliceRep byteRep) w (· < w.heap.size) A n L) :
    Calls Try.prog 33 #[.int .i64 f, .slice A n c] w fun e w' => ∃ v, e = .returned v ∧ Own byteRep w' w.heap.size (fun _ => False) 5 v (bytesV f L) ∧ Below w.heap.size w w' := by
  obtain ⟨i0, hi, hz0, hz1, hz2⟩ := info_parts info_byte
  have HH := Lib.hid h
  have HL := Lib.hid h.len
  have HHL := Lib.hid (headV_len f)
  clear h
  go_enter Try.func33, Try.ntmps33
  go_wp2_with (first
    | (go_at_call 31; (with_reducible refine (refsegHead_any f hf w).mono ?_); rintro e w1 ⟨v1, rfl, own1, bel1⟩; have OW1 := Lib.hid own1; have B1 := Lib.hid bel1; clear own1 bel1)
    | fail)
  go_loopw [5, 7] (fun v i wr => ∃ k : Nat, i = .int .i64 k ∧ k ≤ n ∧ k ≤ 30 ∧ Own byteRep wr w.heap.size (fun _ => False) 5 v (headV f ++ rowsV (L.take k)) ∧ Below w.heap.size w wr) (fun _ i _ => n - (intOf i).toNat)
  case atStart => exact ⟨0, rfl, Nat.zero_le _, Nat.zero_le _, by rw [show headV f ++ rowsV (L.take 0) = headV f by unfold rowsV; simp]; exact OW1.out, B1.out⟩
  case round =>
    obtain ⟨k, rfl, hk, hk3, hown, hbel⟩ := hrel
    have OW := Lib.hid hown
    have BE := Lib.hid hbel
    have hsz := hbel.size
    obtain ⟨P, hP⟩ : ∃ P, P = headV f ++ rowsV (L.take k) := ⟨_, rfl⟩
    have hPl : P.length ≤ 31457539 := by
      have h1 := rowsV_len (L.take k)
      have h2 := HHL.out
      rw [List.length_take] at h1
      rw [hP, List.length_append]
      omega
    rw [← hP] at OW
    have HP := Lib.hid hP
    clear hown hbel hP
    by_cases hlt : k < n ∧ k < 30
    · obtain ⟨hkn, hk2⟩ := hlt
      obtain ⟨b, off, p, A1, n1, c1, rfl, hb, hx, s1, l1, m1, hc⟩ := HH.out.rowAt hkn (fun p hp => BE.out.cell hp)
      have hd1 : decide ((k : Int) < (n : Int)) = true := decide_eq_true (by omega)
      have hd2 : decide ((k : Int) < 30) = true := decide_eq_true (by omega)
      have hkm : (k : Int) < (n : Int) := by omega
      have hk0 : (0 : Int) ≤ (k : Int) := by omega
      have S1 := Lib.hid (s1.more hsz)
      have HSN := Lib.hid (show headV f ++ rowsV (L.take (k + 1)) = P ++ putV p by rw [HP.out, take_snoc hx, rowsV_snoc, List.append_assoc])
      have HPV := Lib.hid (putV_len p)
      clear hx s1
      go_wp2_with (first
        | (go_at_call 37; (with_reducible refine (refput_any A1 n1 c1 p wr S1.out l1 m1).mono ?_); rintro e w2 ⟨v2, rfl, own2, bel2⟩; obtain ⟨A2, c2, rfl, l2, m2, sl2⟩ := own2.isSlB; obtain ⟨q, hq⟩ : ∃ q, q = (putV p).length := ⟨_, rfl⟩; rw [← hq] at sl2 l2 HPV ⊢; have hpv : q ≤ 1048584 := HPV.out; have SL2 := Lib.hid sl2; have OW2 := Lib.hid (OW.out.below bel2); have B2 := Lib.hid (BE.out.trans (bel2.mono hsz)); have hs2 := bel2.size; clear own2 sl2 bel2 hq)
        | (at_builtin; refine wpList_append_Own _ rfl _ _ 35 rfl w.heap.size 5 i0 _ 1 Try.underlying35 hi hz0 hz1 hz2 rfl (R := byteRep) (S := fun _ => False) (l := P) (l' := putV p) u5 rfl OW2.out A2 q c2 rfl (SL2.out.srcF flat_byte (Below.refl _ _)) (by simp only [maxLen]; omega) (by omega) (by omega) (by omega) ?_; intro v3 w3 own3 gr3 at3; have OW3 := Lib.hid own3; have B3 := Lib.hid (B2.out.grown gr3 (by omega) (fun g hg => OW2.out.row_ge hg)); clear own3 gr3 at3)
        | fail)
      go_roundw
      case rel => exact ⟨k + 1, by go_num, by omega, by omega, by rw [HSN.out]; exact OW3.out, B3.out⟩
      case measure => simp [intOf]; omega
    · have hend : n ≤ k ∨ (k < n ∧ k = 30) := by omega
      have HE := Lib.hid (show P = bytesV f L by
        rw [HP.out]
        unfold bytesV
        rcases hend with h | ⟨_, h⟩
        · rw [List.take_of_length_le (by rw [← HL.out]; exact h), List.take_of_length_le (by rw [← HL.out]; omega)]
        · rw [h])
      have hd : decide ((k : Int) < (n : Int)) = false ∨ (decide ((k : Int) < (n : Int)) = true ∧ decide ((k : Int) < 30) = false) := by
        rcases hend with h | ⟨h1, h2⟩
        · left; exact decide_eq_false (by omega)
        · right; exact ⟨decide_eq_true (by omega), decide_eq_false (by omega)⟩
      clear hend hlt
      rcases hd with hd | ⟨hd, hd2⟩
      all_goals
        have hdn := hd
        simp only [Int.ofNat_lt] at hdn
        go_wp2_with fail
        go_ret
        exact ⟨_, rfl, by rw [← HE.out]; exact OW.out, BE.out⟩

set_option maxHeartbeats 4000000 in
theorem alike05_any (A : Option Addr) (n c : Nat) (b : List UInt8) (w : World) (h : IsSl byteRep w (· < w.heap.size) A n b) (h1 : n ≤ c) (h2 : c ≤ maxLen) (hz : n ≤ 35184372088832) :
    Calls Try.prog 34 #[.slice A n c] w fun e w' => e = .returned (.bool true) ∧ Below w.heap.size w w' := by
  obtain ⟨i0, hi, hz0, hz1, hz2⟩ := info_parts info_byte
  have SI := Lib.hid h
  have HLI := Lib.hid h.len
  have HRL := Lib.hid (segR_len b)
  clear h
  go_enter Try.func34, Try.ntmps34
  go_wp2_with (first
    | (at_builtin; refine wpList_append_Own _ rfl _ _ 35 rfl w.heap.size 5 i0 _ 1 Try.underlying35 hi hz0 hz1 hz2 rfl (R := byteRep) (S := fun _ => False) (l := []) (l' := b) (.slice (some ⟨w.heap.size, 0, none⟩) 0 0) rfl (Own.nil _ _ _ (fun _ h => h.elim) _ _) A n c rfl (SI.out.srcF flat_byte ((Below.refl _ _).alloc (Nat.le_refl _) _)) (by simp [maxLen]; omega) (by simp; omega) (by omega) (by simp) ?_; intro v1 w4 own4 gr4 at4; have bel4 := ((Below.refl w.heap.size w).alloc (Nat.le_refl _) (.cells #[] 5)).grown gr4 (by simp) (by intro k hk; simp [rowOf] at hk); simp only [List.nil_append] at own4; obtain ⟨A1, c1, rfl, hlc1, hcm1, sl1⟩ := own4.isSlB; rw [← HLI.out] at hlc1 sl1 ⊢; have SL4 := Lib.hid sl1; have B4 := Lib.hid bel4; clear gr4 at4 own4 sl1 bel4)
    | (go_at_call 35; (with_reducible refine (segRead_any A1 n c1 b _ SL4.out hlc1 hcm1 hz).mono ?_); rintro e w5 ⟨A5, n5, c5, rfl, s5, l5, m5, bel5⟩; have S5 := Lib.hid s5; have B5 := Lib.hid (B4.out.trans (bel5.mono B4.out.size)); clear s5 bel5)
    | (go_at_call 69; (with_reducible refine (refsegRead_any A n c b _ ((SI.out.below B5.out).more B5.out.size) h1 h2 hz).mono ?_); rintro e w6 ⟨A6, n6, c6, rfl, s6, l6, m6, bel6⟩; have S6 := Lib.hid s6; have S56 := Lib.hid ((S5.out.below bel6).more bel6.size); have HN5 := Lib.hid S5.out.len; have B6 := Lib.hid (B5.out.trans (bel6.mono B5.out.size)); clear s6 bel6)
    | (go_at_call 36; (with_reducible refine (many_any A5 A6 n5 n6 c5 c6 (segR b) _ S56.out S6.out (by have := HRL.out; have := HLI.out; have := HN5.out; omega)).mono ?_); rintro e w7 ⟨rfl, bel7⟩; have B7 := Lib.hid (B6.out.trans (bel7.mono B6.out.size)); clear bel7)
    | fail)
  go_ret
  exact ⟨rfl, B7.out⟩
end Go.Proofs.Ytcohheoahdbgmaa
