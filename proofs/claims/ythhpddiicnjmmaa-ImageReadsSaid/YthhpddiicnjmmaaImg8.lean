/- Contracts of the law's helpers of layer 10: awake, few, record. Written by gen_img8.py. -/
import Derived.Test.YthhpddiicnjmmaaImgB
import Derived.Test.YthhpddiicnjmmaaImg4
import Derived.Test.YthhpddiicnjmmaaImg7
import Derived.Test.YthhpddiicnjmmaaFldA
set_option linter.unusedVariables false
set_option linter.unusedSimpArgs false
set_option maxRecDepth 100000
namespace Go.Proofs.Ythhpddiicnjmmaa
open Go.RowKit

theorem boolOr (b : Bool) : (Ending.returned (.bool b) = .returned (.bool false)) ∨ (Ending.returned (.bool b) = .returned (.bool true)) := by cases b <;> simp
/-- w' = w, behind a name so that a walk does not take it apart -/
def SameW (w w' : World) : Prop := w' = w
def img35 : Img := (3, [[⟨5, ⟨#[97]⟩⟩], []])
theorem img35_may : mayImg img35 = true := by decide
theorem img35_enc : imgE img35 = 0 ∧ fromV (imgV img35) = img35 ∧ fromE (imgV img35) = 0 ∧ (imgV img35).length ≤ 400008 := by
  have h := img_back img35_may
  have hl := encG_len img35_may
  exact ⟨if_pos img35_may, h.1, h.2.1, by rw [h.2.2.1]; omega⟩
theorem tabs35 {w : World} : IsSl (sliceRep rowRep) ((w.alloc (.cells #[.int .i64 5, .string ⟨#[97]⟩] 80)).alloc (.cells #[.slice (some ⟨w.heap.size, 0, none⟩) 1 1, .slice none 0 0] 81)) (· < ((w.alloc (.cells #[.int .i64 5, .string ⟨#[97]⟩] 80)).alloc (.cells #[.slice (some ⟨w.heap.size, 0, none⟩) 1 1, .slice none 0 0] 81)).heap.size) (some ⟨w.heap.size + 1, 0, none⟩) 2 [[⟨5, ⟨#[97]⟩⟩], []] := by
  obtain ⟨W, hW⟩ : ∃ W, W = w.alloc (.cells #[.int .i64 5, .string ⟨#[97]⟩] 80) := ⟨_, rfl⟩
  have hWs : W.heap.size = w.heap.size + 1 := by rw [hW]; simp
  have h1 : IsSl rowRep W (· < W.heap.size) (some ⟨w.heap.size, 0, none⟩) 1 [⟨5, ⟨#[97]⟩⟩] := by
    rw [hW]
    exact ⟨rfl, _, Rows.single (R := rowRep) (cs := (⟨5, ⟨#[97]⟩⟩ : Row).cells) ⟨rfl, ⟨show I64 (5 : Int) by (unfold I64; omega), by decide⟩⟩, fun _ => ⟨w.heap.size, 0, rfl, by simp, fun j u hu => by rw [Nat.zero_add, World.cell?_alloc_at _ _ _ _ rfl]; simpa [Row.cells] using hu⟩⟩
  rw [← hW, ← hWs]
  have h2 := h1.af ((Below.refl W.heap.size W).alloc (Nat.le_refl _) (.cells #[.slice (some ⟨w.heap.size, 0, none⟩) 1 1, .slice none 0 0] 81))
  have r1 := Rows.single (R := sliceRep rowRep) (cs := [.slice (some ⟨w.heap.size, 0, none⟩) 1 1]) ⟨_, 1, 1, rfl, h2, Nat.le_refl _, by decide⟩
  have r2 := Rows.single (R := sliceRep rowRep) (w := W.alloc (.cells #[.slice (some ⟨w.heap.size, 0, none⟩) 1 1, .slice none 0 0] 81)) (S := (· < (W.alloc (.cells #[.slice (some ⟨w.heap.size, 0, none⟩) 1 1, .slice none 0 0] 81)).heap.size)) (cs := [.slice none 0 0]) (a := []) ⟨none, 0, 0, rfl, IsSl.nil, Nat.le_refl _, Nat.zero_le _⟩
  exact ⟨rfl, _, r1.append r2, fun _ => ⟨W.heap.size, 0, rfl, by simp, fun j u hu => by rw [Nat.zero_add, World.cell?_alloc_at _ _ _ _ rfl]; simpa using hu⟩⟩

set_option maxHeartbeats 8000000 in
theorem awake10 (w : World) :
    Calls Try.prog 12 #[] w fun e w' => e = .returned (.bool true) ∧ Below w.heap.size w w' := by
  have HE := Lib.hid img35_enc
  obtain ⟨B, hB⟩ : ∃ B, B = imgV img35 := ⟨_, rfl⟩
  obtain ⟨N, hN⟩ : ∃ N, N = B.length := ⟨_, rfl⟩
  rw [← hB, ← hN] at HE
  have HB := Lib.hid hB
  have HN := Lib.hid hN
  have HX := Lib.hid (show imgE (3, [[⟨5, ⟨#[97]⟩⟩], []]) = 0 from img35_enc.1)
  have HV := Lib.hid (show imgV (3, [[⟨5, ⟨#[97]⟩⟩], []]) = B from hB.symm)
  have B0 := Lib.hid (show Below w.heap.size w ((w.alloc (.cells #[.int .i64 5, .string ⟨#[97]⟩] 80)).alloc (.cells #[.slice (some ⟨w.heap.size, 0, none⟩) 1 1, .slice none 0 0] 81)) from ((Below.refl _ _).alloc (Nat.le_refl _) _).alloc (by simp) _)
  clear hB hN
  go_enter Try.func12, Try.ntmps12
  go_wp2_with (first
    | (go_at_call 13; (with_reducible refine (imgEncode_any 3 (by unfold I64; omega) (some ⟨w.heap.size + 1, 0, none⟩) 2 2 [[⟨5, ⟨#[97]⟩⟩], []] _ tabs35).mono ?_); rintro e w1 ⟨v1, rfl, own1, bel1⟩; rw [HX.out]; rw [HV.out] at own1; obtain ⟨A1, c1, rfl, l1, m1, sl1⟩ := own1.isSlB; rw [← HN.out] at l1 sl1 ⊢; have SL1 := Lib.hid sl1; have B1 := Lib.hid (bel_n B0.out bel1); clear own1 sl1 bel1)
    | (go_at_call 18; (with_reducible refine (imgDecode_any A1 N c1 B w1 SL1.out l1 m1).mono ?_); rintro e w2 ⟨A2, n2, c2, rfl, s2, l2, m2, bel2⟩; rw [HE.out.2.1, HE.out.2.2.1]; rw [HE.out.2.1] at s2; rw [show img35.fst = 3 from rfl]; rw [show img35.snd = [[⟨5, ⟨#[97]⟩⟩], []] from rfl] at s2; obtain rfl : n2 = 2 := s2.len; obtain ⟨b2, o2, t2, A3, n3, c3, rfl, hb2, hx2, s3, l3, m3, hc2⟩ := s2.tabI (k := 0) (by omega) (fun _ _ => rfl); obtain rfl := (Option.some.inj hx2).symm; obtain rfl : n3 = 1 := s3.len; obtain ⟨b3, o3, r3, rfl, hb3, hx3, hw3, hk3, hv3⟩ := s3.rowI (k := 0) (by omega) (fun _ _ => rfl); obtain rfl := (Option.some.inj hx3).symm; obtain ⟨b4, o4, t4, A4, n4, c4, hA4, hb4, hx4, s4, l4, m4, hc4⟩ := s2.tabI (k := 1) (by omega) (fun _ _ => rfl); injection hA4 with hA4; injection hA4 with e1 e2 _; subst e1 e2; simp only [Nat.zero_mul, Nat.add_zero] at hc2 hc4 hk3 hv3; obtain rfl := (Option.some.inj hx4).symm; obtain rfl : n4 = 0 := s4.len; have B2 := Lib.hid (bel_n B1.out bel2); clear s2 s3 s4 bel2 hx2 hx3 hx4)
    | fail)
  go_ret
  exact ⟨rfl, B2.out⟩

set_option maxHeartbeats 8000000 in
theorem few10_any (A : Option Addr) (n c : Nat) (T : List (List Row)) (w : World) (h : IsSl (sliceRep rowRep) w (· < w.heap.size) A n T) :
    Calls Try.prog 11 #[.slice A n c] w fun e w' => ∃ v, e = .returned (.bool v) ∧ SameW w w' := by
  have HH := Lib.hid h
  clear h
  go_enter Try.func11, Try.ntmps11
  go_wp2_with fail
  go_loop [3, 4] (fun s i => ∃ (k : Nat) (a : Int), i = .int .i64 k ∧ k ≤ n ∧ k ≤ 21 ∧ s = .int .i64 a ∧ 0 ≤ a ∧ a ≤ 1100 * k) (fun _ i => n - (intOf i).toNat)
  case atStart => exact ⟨0, 0, rfl, Nat.zero_le _, Nat.zero_le _, rfl, by decide, by decide⟩
  case round =>
    obtain ⟨k, a, rfl, hk, hk2, rfl, ha0, ha1⟩ := hrel
    by_cases hlt : k < n
    · obtain ⟨b, off, l, A1, n1, c1, rfl, hb, hx, s1, l1, m1, hc⟩ := HH.out.tabI hlt (fun _ _ => rfl)
      have hd : decide ((k : Int) < (n : Int)) = true := decide_eq_true (by omega)
      have hkm : (k : Int) < (n : Int) := by omega
      have hk0 : (0 : Int) ≤ (k : Int) := by omega
      clear hx s1
      by_cases h1 : 1100 < n1
      · have hd1 : decide (1100 < (n1 : Int)) = true := decide_eq_true (by omega)
        go_wp2_with fail
        go_ret
        exact ⟨boolOr _, rfl⟩
      · have hd1 : decide (1100 < (n1 : Int)) = false := decide_eq_false (by omega)
        by_cases h2 : 20 < k
        · have hd2 : decide (20 < (k : Int)) = true := decide_eq_true (by omega)
          go_wp2_with fail
          go_ret
          exact ⟨boolOr _, rfl⟩
        · have hd2 : decide (20 < (k : Int)) = false := decide_eq_false (by omega)
          go_wp2_with fail
          go_round
          case rel => exact ⟨k + 1, _, by go_num, by omega, by omega, rfl, by omega, by omega⟩
          case measure => simp [intOf]; omega
    · obtain rfl : k = n := by omega
      have hkk : decide ((k : Int) < (k : Int)) = false := by simp
      go_wp2_with fail
      go_ret
      exact ⟨boolOr _, rfl⟩

set_option maxHeartbeats 8000000 in
theorem imageBytes_walk (w : World) (lsn : Int) (hl : I64 lsn) (A : Option Addr) (n c : Nat) (T : List (List Row)) (h : IsSl (sliceRep rowRep) w (· < w.heap.size) A n T) (h1 : n ≤ c) (h2 : c ≤ maxLen) :
    Calls Try.prog 3 #[.int .i64 lsn, .slice A n c] w fun e w' => e = .returned (.bool true) ∧ Below w.heap.size w w' := by
  have HH := Lib.hid h
  clear h
  go_enter Try.func3, Try.ntmps3
  obtain ⟨E, hE⟩ : ∃ E, E = imgE (lsn, T) := ⟨_, rfl⟩
  obtain ⟨B, hB⟩ : ∃ B, B = imgV (lsn, T) := ⟨_, rfl⟩
  have HE := Lib.hid hE
  have HB := Lib.hid hB
  clear hE hB
  go_wp2_with (first
    | (go_at_call 11; (with_reducible refine (few10_any A n c T w HH.out).mono ?_); rintro e w' ⟨v, rfl, hw'⟩; obtain rfl : w' = w := hw'; have B0 := Lib.hid (Below.refl w'.heap.size w'))
    | (go_at_call 13; (with_reducible refine (imgEncode_any lsn hl A n c T _ HH.out).mono ?_); rintro e w1 ⟨v1, rfl, own1, bel1⟩; rw [← HE.out]; rw [← HB.out] at own1; obtain ⟨A1, c1, rfl, l1, m1, sl1⟩ := own1.isSlB; have SL1 := Lib.hid sl1; have B1 := Lib.hid (bel_n B0.out bel1); have HH1 := Lib.hid (HH.out.af bel1); clear own1 sl1 bel1)
    | (go_at_call 14; (with_reducible refine (refImage_any lsn hl A n c T w1 HH1.out).mono ?_); rintro e w2 ⟨v2, rfl, own2, bel2⟩; rw [← HE.out]; rw [← HB.out] at own2; obtain ⟨A2, c2, rfl, l2, m2, sl2⟩ := own2.isSlB; have SL2 := Lib.hid sl2; have SM2 := Lib.hid (SL1.out.af bel2); have B2 := Lib.hid (bel_n B1.out bel2); clear own2 sl2 bel2)
    | (go_at_call 12; (with_reducible refine (awake10 w2).mono ?_); rintro e w3 ⟨rfl, bel3⟩; have SL3 := Lib.hid (SL2.out.af bel3); have SM3 := Lib.hid (SM2.out.af bel3); have B3 := Lib.hid (bel_n B2.out bel3); clear bel3)
    | (go_at_call 12; (with_reducible refine (awake10 _).mono ?_); rintro e w3 ⟨rfl, bel3⟩; have B3 := Lib.hid (bel_n B0.out bel3); clear bel3)
    | (go_at_call 15; (with_reducible refine (bytes_any _ _ _ _ _ _ B _ _ _ SM3.out SL3.out).mono ?_); rintro e w4 ⟨rfl, rfl⟩)
    | fail)
  all_goals go_ret
  all_goals exact ⟨rfl, B3.out⟩
end Go.Proofs.Ythhpddiicnjmmaa
