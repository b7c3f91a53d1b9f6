/- Contract: rec.Take. -/
import Derived.Test.YthhpddiicnjmmaaRec6
set_option maxRecDepth 100000
namespace Go.Proofs.Ythhpddiicnjmmaa
open Go.RowKit

theorem wrap_i64 (n : Nat) (h : n < 9223372036854775808) : IntKind.i64.wrap (n : Int) = (n : Int) := by
  simp [IntKind.wrap, IntKind.bits, IntKind.signed]
  omega

theorem or_i64 (p q : Nat) (hp : p < 2 ^ 62) (hq : q < 2 ^ 62) : bits .or .i64 (p : Int) (q : Int) = ((p ||| q : Nat) : Int) := by
  have h1 : (BitVec.ofInt 64 (p : Int)).toNat = p := by rw [BitVec.ofInt_natCast, BitVec.toNat_ofNat]; exact Nat.mod_eq_of_lt (by omega)
  have h2 : (BitVec.ofInt 64 (q : Int)).toNat = q := by rw [BitVec.ofInt_natCast, BitVec.toNat_ofNat]; exact Nat.mod_eq_of_lt (by omega)
  show IntKind.i64.wrap (((BitVec.ofInt 64 (p : Int)) ||| (BitVec.ofInt 64 (q : Int))).toNat : Int) = _
  rw [BitVec.toNat_or, h1, h2]
  have := Nat.or_lt_two_pow hp hq
  exact wrap_i64 _ (by omega)

theorem four_read (x0 x1 x2 x3 : UInt8) : bits .or .i64 (bits .or .i64 (bits .or .i64 (IntKind.i64.wrap (IntKind.i64.wrap (x0.toNat : Int) * 16777216)) (IntKind.i64.wrap (IntKind.i64.wrap (x1.toNat : Int) * 65536))) (IntKind.i64.wrap (IntKind.i64.wrap (x2.toNat : Int) * 256))) (IntKind.i64.wrap (x3.toNat : Int)) = (numB [x0, x1, x2, x3] : Int) := by
  have h0 := x0.toNat_lt
  have h1 := x1.toNat_lt
  have h2 := x2.toNat_lt
  have h3 := x3.toNat_lt
  have hn : numB [x0, x1, x2, x3] = ((x0.toNat * 256 + x1.toNat) * 256 + x2.toNat) * 256 + x3.toNat := by simp [numB]
  rw [hn]
  generalize x0.toNat = a at *
  generalize x1.toNat = b at *
  generalize x2.toNat = c at *
  generalize x3.toNat = d at *
  rw [wrap_i64 a (by omega), wrap_i64 b (by omega), wrap_i64 c (by omega), wrap_i64 d (by omega)]
  rw [show (a : Int) * 16777216 = ((a * 16777216 : Nat) : Int) by omega, show (b : Int) * 65536 = ((b * 65536 : Nat) : Int) by omega, show (c : Int) * 256 = ((c * 256 : Nat) : Int) by omega]
  rw [wrap_i64 (a * 16777216) (by omega), wrap_i64 (b * 65536) (by omega), wrap_i64 (c * 256) (by omega)]
  have o1 : a * 16777216 ||| b * 65536 = a * 16777216 + b * 65536 := by
    have := Nat.two_pow_add_eq_or_of_lt (i := 24) (b := b * 65536) (by omega) a
    rw [Nat.mul_comm] at this
    exact this.symm
  have o2 : (a * 16777216 + b * 65536) ||| c * 256 = a * 16777216 + b * 65536 + c * 256 := by
    have := Nat.two_pow_add_eq_or_of_lt (i := 16) (b := c * 256) (by omega) (a * 256 + b)
    rw [show 2 ^ 16 * (a * 256 + b) = a * 16777216 + b * 65536 by omega] at this
    exact this.symm
  have o3 : (a * 16777216 + b * 65536 + c * 256) ||| d = a * 16777216 + b * 65536 + c * 256 + d := by
    have := Nat.two_pow_add_eq_or_of_lt (i := 8) (b := d) (by omega) (a * 65536 + b * 256 + c)
    rw [show 2 ^ 8 * (a * 65536 + b * 256 + c) = a * 16777216 + b * 65536 + c * 256 by omega] at this
    exact this.symm
  rw [or_i64 _ _ (by omega) (by omega), o1, or_i64 _ _ (by omega) (by omega), o2, or_i64 _ _ (by omega) (by omega), o3]
  omega

theorem four_first {l : List UInt8} {x0 x1 x2 x3 : UInt8} (e0 : l[0]? = some x0) (e1 : l[1]? = some x1) (e2 : l[2]? = some x2) (e3 : l[3]? = some x3) : l.take 4 = [x0, x1, x2, x3] := by
  rw [take_snoc e3, take_snoc e2, take_snoc e1, take_snoc e0]
  rfl

set_option maxHeartbeats 2000000 in
theorem take_any (A : Option Addr) (n c : Nat) (b : List UInt8) (w : World) (h : IsSl byteRep w (· < w.heap.size) A n b) (h1 : n ≤ c) (h2 : c ≤ maxLen) :
    Calls Try.prog 60 #[.slice A n c] w fun e w' => ∃ v, e = .returned (.tuple #[v, .int .i64 (takeK b : Int), .int .i64 (takeE b)]) ∧ Own byteRep w' w.heap.size (fun _ => False) 5 v (takeV b) ∧ Below w.heap.size w w' := by
  have HL := Lib.hid h.len
  have hnm : n ≤ 9223372036854775807 := by unfold maxLen at h2; omega
  by_cases h8 : n < 8
  · have hE := takeE_short (b := b) (by rw [← HL.out]; exact h8)
    have hT := take_bad hE (by omega)
    have HE := Lib.hid hE
    have HT := Lib.hid hT
    clear hE hT h
    go_enter Try.func60, Try.ntmps60
    go_wp2_with fail
    go_ret3
    rw [HE.out, HT.out.1, HT.out.2]
    exact ⟨_, rfl, Own.nil _ _ _ (fun _ h => h.elim) _ _, Below.refl _ _⟩
  · obtain ⟨g, off, x0, cs, rfl, hgS, _, _, _⟩ := h.at_ (k := 0) (by omega)
    obtain ⟨g0, off0, x0, hA0, _, e0, c0⟩ := h.byteAt (w' := w) (k := 0) (by omega) (fun _ _ => rfl)
    obtain ⟨g1, off1, x1, hA1, _, e1, c1⟩ := h.byteAt (w' := w) (k := 1) (by omega) (fun _ _ => rfl)
    obtain ⟨g2, off2, x2, hA2, _, e2, c2⟩ := h.byteAt (w' := w) (k := 2) (by omega) (fun _ _ => rfl)
    obtain ⟨g3, off3, x3, hA3, _, e3, c3⟩ := h.byteAt (w' := w) (k := 3) (by omega) (fun _ _ => rfl)
    injection hA0 with hA0; injection hA0 with q1 q2 _; subst q1 q2
    injection hA1 with hA1; injection hA1 with q1 q2 _; subst q1 q2
    injection hA2 with hA2; injection hA2 with q1 q2 _; subst q1 q2
    injection hA3 with hA3; injection hA3 with q1 q2 _; subst q1 q2
    have N8 := Lib.hid (show ¬ b.length < 8 by rw [← HL.out]; exact h8)
    have hlt := takeN_lt b
    obtain ⟨N, hN⟩ : ∃ N, N = takeN b := ⟨_, rfl⟩
    have HN := Lib.hid hN
    rw [← hN] at hlt
    clear hN
    have HF := Lib.hid ((four_read x0 x1 x2 x3).trans (show (numB [x0, x1, x2, x3] : Int) = (N : Int) by rw [HN.out]; unfold takeN; rw [four_first e0 e1 e2 e3]))
    have H := Lib.hid h
    have E0 := Lib.hid e0
    have E1 := Lib.hid e1
    have E2 := Lib.hid e2
    have E3 := Lib.hid e3
    have hi8 : (8 : Int) ≤ (n : Int) := by omega
    have hi0 : decide ((n : Int) < 8) = false := by simp; omega
    have hz0 : decide ((0 : Int) < (n : Int)) = true := by simp; omega
    have hz1 : decide ((1 : Int) < (n : Int)) = true := by simp; omega
    have hz2 : decide ((2 : Int) < (n : Int)) = true := by simp; omega
    have hz3 : decide ((3 : Int) < (n : Int)) = true := by simp; omega
    have hn0 : 0 < n := by omega
    have hn1 : 1 < n := by omega
    have hn2 : 2 < n := by omega
    have hn3 : 3 < n := by omega
    have p0 : (0 : Int) < (n : Int) := by omega
    have p1 : (1 : Int) < (n : Int) := by omega
    have p2 : (2 : Int) < (n : Int) := by omega
    have p3 : (3 : Int) < (n : Int) := by omega
    rw [Nat.add_zero] at c0
    clear e0 e1 e2 e3 h
    go_enter Try.func60, Try.ntmps60
    go_wp2_with fail
    go_region_held3 (fun w' => w' = w.drew) (first | exact rfl | fail) (fail)
    rw [HF.out]
    by_cases hbig : 1048576 < N
    · have hE := takeE_form N8.out (by rw [← HN.out]; exact hbig)
      have hT := take_bad hE (by omega)
      have HE := Lib.hid hE
      have HT := Lib.hid hT
      clear hE hT
      go_wp2_with fail
      go_ret3
      rw [HE.out, HT.out.1, HT.out.2]
      exact ⟨_, rfl, Own.nil _ _ _ (fun _ h => h.elim) _ _, (Below.refl _ _).drew⟩
    · by_cases hcut : n < 8 + N
      · have hE := takeE_cut N8.out (by rw [← HN.out]; exact hbig) (by rw [← HN.out, ← HL.out]; exact hcut)
        have hT := take_bad hE (by omega)
        have HE := Lib.hid hE
        have HT := Lib.hid hT
        clear hE hT
        have hcd : decide ((n : Int) < 8 + (N : Int)) = true := by simp; omega
        go_wp2_with fail
        go_ret3
        rw [HE.out, HT.out.1, HT.out.2]
        exact ⟨_, rfl, Own.nil _ _ _ (fun _ h => h.elim) _ _, (Below.refl _ _).drew⟩
      · have hcd : decide ((n : Int) < 8 + (N : Int)) = false := by simp; omega
        have hN1 : N ≤ 1100000 := by omega
        have hc8 : N ≤ c - 8 := by omega
        have hcm : c - 8 ≤ maxLen := by omega
        have hc4 : 4 ≤ c := by omega
        have hci4 : (4 : Int) ≤ (c : Int) := by omega
        have hci8 : (8 : Int) ≤ (c : Int) := by omega
        have hcn4 : ¬ c = 4 := by omega
        have hcn0 : ¬ c = 0 := by omega
        have hcs : ¬ c - 4 = 0 := by omega
        have hcb : decide (c = 4) = false := by simp; omega
        have hcq : (c == 4) = false := by simp; omega
        have hm0 : (0 : Nat) ≤ maxLen := Nat.zero_le _
        have hPd : IsSl byteRep w.drew (· < w.drew.heap.size) (some ⟨g, off + 8, none⟩) N ((b.drop 8).take N) := (H.out.mid (lo := 8) (m := N) (by omega)).keep fun _ _ => rfl
        have PD := Lib.hid hPd
        have S4 := Lib.hid (H.out.mid (lo := 4) (m := 4) (by omega))
        have HOK := Lib.hid (show bigB (recSum ((b.drop 8).take N)) 4 = (b.drop 4).take 4 → takeE b = 0 by
          intro e
          have h3 : ¬ b.length < 8 + takeN b := by rw [← HN.out, ← HL.out]; exact hcut
          refine takeE_ok N8.out (by rw [← HN.out]; exact hbig) h3 ?_
          rw [← recSum_take N8.out h3, ← HN.out]
          exact (sum_eq (by unfold recSum; exact moreC_lt _ _ (moreC_lt _ _ (by omega))) (by simp; omega)).1 e)
        have HSUM := Lib.hid (show ¬ bigB (recSum ((b.drop 8).take N)) 4 = (b.drop 4).take 4 → takeE b = 4 by
          intro e
          have h3 : ¬ b.length < 8 + takeN b := by rw [← HN.out, ← HL.out]; exact hcut
          refine takeE_sum N8.out (by rw [← HN.out]; exact hbig) h3 fun e2 => e ?_
          rw [← recSum_take N8.out h3, ← HN.out] at e2
          exact (sum_eq (by unfold recSum; exact moreC_lt _ _ (moreC_lt _ _ (by omega))) (by simp; omega)).2 e2)
        have HP := Lib.hid (H.out.mid (lo := 8) (m := N) (by omega))
        have HBS := Lib.hid (show w.heap.size ≤ w.drew.heap.size from Nat.le_refl _)
        clear hPd
        go_wp2_with (first
          | (go_at_call 115; (with_reducible refine (of_any (some ⟨g, off + 8, none⟩) N (c - 8) ((b.drop 8).take N) _ PD.out hN1 hc8 hcm).mono ?_); rintro e w2 ⟨g2, rfl, hg21, hg22, sl2, bel2⟩; have hs2 := bel2.size; have SL2 := Lib.hid sl2; have BEL2 := Lib.hid bel2; clear sl2 bel2)
          | (go_at_call 115; have hN0 : N = 0 := (by omega); subst hN0; (with_reducible refine (of_any (some ⟨g, off, none⟩) 0 0 ((b.drop 8).take 0) _ IsSl.nil (Nat.zero_le _) (Nat.zero_le _) hm0).mono ?_); rintro e w2 ⟨g2, rfl, hg21, hg22, sl2, bel2⟩; have hs2 := bel2.size; have SL2 := Lib.hid sl2; have BEL2 := Lib.hid bel2; clear sl2 bel2)
          | fail)
        · obtain ⟨W3, hW3⟩ : ∃ W3, W3 = w2.alloc (.cells #[.slice (some ⟨g, off, none⟩) 0 0, .slice (some ⟨g2, 0, none⟩) 4 4] 188) := ⟨_, rfl⟩
          have b3 : Below w2.heap.size w2 W3 := by rw [hW3]; exact (Below.refl _ _).alloc (Nat.le_refl _) _
          have l3 : w2.heap.size < W3.heap.size := by rw [hW3]; simp
          have q0 : W3.cell? ⟨w2.heap.size, 0, none⟩ = some (.slice (some ⟨g, off, none⟩) 0 0) := by rw [hW3]; exact World.cell?_alloc_at _ _ _ _ rfl
          have q1 : W3.cell? ⟨w2.heap.size, 1, none⟩ = some (.slice (some ⟨g2, 0, none⟩) 4 4) := by rw [hW3]; exact World.cell?_alloc_at _ _ _ _ rfl
          have bw2 : Below w.heap.size w w2 := ((Below.refl w.heap.size w).drew).trans BEL2.out
          have bw3 : Below w.heap.size w W3 := bw2.trans (b3.mono bw2.size)
          have BW3 := Lib.hid bw3
          have SL3d : IsSl byteRep W3.drew (· < W3.drew.heap.size) (some ⟨g2, 0, none⟩) 4 (bigB (recSum ((b.drop 8).take 0)) 4) := ((SL2.out.below b3).more b3.size).keep fun _ _ => rfl
          have SL3 := Lib.hid SL3d
          have S4d : IsSl byteRep W3.drew (· < W3.drew.heap.size) (some ⟨g, off + 4, none⟩) 4 ((b.drop 4).take 4) := ((S4.out.below bw3).more bw3.size).keep fun _ _ => rfl
          have S43 := Lib.hid S4d
          have h4m : (4 : Nat) ≤ maxLen := by unfold maxLen; omega
          have P3 := Lib.hid (((HP.out).below bw3).more bw3.size)
          have P3F := Lib.hid (fun j : Nat => (show IsSl byteRep (W3.drewN j) (· < (W3.drewN j).heap.size) (some ⟨g, off, none⟩) 0 ((b.drop 8).take 0) from IsSl.nil))
          have hN10 : 0 ≤ 100000000000 := by omega
          have BWF := Lib.hid (fun j : Nat => (show Below w.heap.size w (W3.drewN j) from below_drewN bw3 j))
          rw [← hW3]
          clear hW3 SL3d S4d b3 bw2 bw3
          by_cases hs : bigB (recSum ((b.drop 8).take 0)) 4 = (b.drop 4).take 4
          · have hE := HOK.out hs
            have hT := take_good hE
            have HE := Lib.hid hE
            have HTV := Lib.hid (show takeV b = ((b.drop 8).take 0) by rw [hT.2, ← HN.out])
            have HTK := Lib.hid (show (takeK b : Int) = 8 by rw [hT.1, ← HN.out]; rfl)
            have HS := Lib.hid (show decide (bigB (recSum ((b.drop 8).take 0)) 4 = (b.drop 4).take 4) = true from decide_eq_true hs)
            clear hE hT hs
            go_region_held3 (fun w' => w'.cell? ⟨w2.heap.size, 0, none⟩ = some (.slice (some ⟨g, off, none⟩) 0 0) ∧ w'.cell? ⟨w2.heap.size, 1, none⟩ = some (.slice (some ⟨g2, 0, none⟩) 4 4)) (first | exact ⟨q0, q1⟩ | fail)
              (first
                | (go_at_call 122; (with_reducible refine (equal_any (some ⟨g2, 0, none⟩) _ 4 4 _ _ _ _ _ _ _ SL3.out S43.out h4m h4m).mono ?_); rintro e w' ⟨rfl, q, rfl⟩; rw [HS.out])
                | fail)
            all_goals go_wp2_with (first
              | (go_at_call 123; (with_reducible refine (cloneB_any _ _ _ ((b.drop 8).take 0) _ (P3F.out _) hN10).mono ?_); rintro e w5 ⟨v5, rfl, own5, bel5⟩; have OW5 := Lib.hid (own5.mono (BWF.out _).size); have BW5 := Lib.hid ((BWF.out _).trans (bel5.mono (BWF.out _).size)); clear own5 bel5)
              | fail)
            all_goals go_ret3
            all_goals rw [HE.out, HTK.out, HTV.out]
            all_goals exact ⟨_, rfl, OW5.out, BW5.out⟩
          · have hE := HSUM.out hs
            have hT := take_bad hE (by omega)
            have HE := Lib.hid hE
            have HT := Lib.hid hT
            have HS := Lib.hid (show decide (bigB (recSum ((b.drop 8).take 0)) 4 = (b.drop 4).take 4) = false from decide_eq_false hs)
            clear hE hT hs
            go_region_held3 (fun w' => w'.cell? ⟨w2.heap.size, 0, none⟩ = some (.slice (some ⟨g, off, none⟩) 0 0) ∧ w'.cell? ⟨w2.heap.size, 1, none⟩ = some (.slice (some ⟨g2, 0, none⟩) 4 4)) (first | exact ⟨q0, q1⟩ | fail)
              (first
                | (go_at_call 122; (with_reducible refine (equal_any (some ⟨g2, 0, none⟩) _ 4 4 _ _ _ _ _ _ _ SL3.out S43.out h4m h4m).mono ?_); rintro e w' ⟨rfl, q, rfl⟩; rw [HS.out])
                | fail)
            all_goals go_wp2_with fail
            all_goals go_ret3
            all_goals rw [HE.out, HT.out.1, HT.out.2]
            all_goals exact ⟨_, rfl, Own.nil _ _ _ (fun _ h => h.elim) _ _, by first | exact below_drewN BW3.out _ | exact below_drewN (below_drewN BW3.out.drew _) _ | exact (below_drewN BW3.out.drew _).drew | fail⟩
        · obtain ⟨W3, hW3⟩ : ∃ W3, W3 = w2.alloc (.cells #[.slice (some ⟨g, off + 8, none⟩) N (c - 8), .slice (some ⟨g2, 0, none⟩) 4 4] 188) := ⟨_, rfl⟩
          have b3 : Below w2.heap.size w2 W3 := by rw [hW3]; exact (Below.refl _ _).alloc (Nat.le_refl _) _
          have l3 : w2.heap.size < W3.heap.size := by rw [hW3]; simp
          have q0 : W3.cell? ⟨w2.heap.size, 0, none⟩ = some (.slice (some ⟨g, off + 8, none⟩) N (c - 8)) := by rw [hW3]; exact World.cell?_alloc_at _ _ _ _ rfl
          have q1 : W3.cell? ⟨w2.heap.size, 1, none⟩ = some (.slice (some ⟨g2, 0, none⟩) 4 4) := by rw [hW3]; exact World.cell?_alloc_at _ _ _ _ rfl
          have bw2 : Below w.heap.size w w2 := ((Below.refl w.heap.size w).drew).trans BEL2.out
          have bw3 : Below w.heap.size w W3 := bw2.trans (b3.mono bw2.size)
          have BW3 := Lib.hid bw3
          have SL3d : IsSl byteRep W3.drew (· < W3.drew.heap.size) (some ⟨g2, 0, none⟩) 4 (bigB (recSum ((b.drop 8).take N)) 4) := ((SL2.out.below b3).more b3.size).keep fun _ _ => rfl
          have SL3 := Lib.hid SL3d
          have S4d : IsSl byteRep W3.drew (· < W3.drew.heap.size) (some ⟨g, off + 4, none⟩) 4 ((b.drop 4).take 4) := ((S4.out.below bw3).more bw3.size).keep fun _ _ => rfl
          have S43 := Lib.hid S4d
          have h4m : (4 : Nat) ≤ maxLen := by unfold maxLen; omega
          have P3 := Lib.hid (((HP.out).below bw3).more bw3.size)
          have P3F := Lib.hid (fun j : Nat => (show IsSl byteRep (W3.drewN j) (· < (W3.drewN j).heap.size) (some ⟨g, off + 8, none⟩) N ((b.drop 8).take N) from P3.out.keep fun _ _ => rfl))
          have hN10 : N ≤ 100000000000 := by omega
          have BWF := Lib.hid (fun j : Nat => (show Below w.heap.size w (W3.drewN j) from below_drewN bw3 j))
          rw [← hW3]
          clear hW3 SL3d S4d b3 bw2 bw3
          by_cases hs : bigB (recSum ((b.drop 8).take N)) 4 = (b.drop 4).take 4
          · have hE := HOK.out hs
            have hT := take_good hE
            have HE := Lib.hid hE
            have HTV := Lib.hid (show takeV b = ((b.drop 8).take N) by rw [hT.2, ← HN.out])
            have HTK := Lib.hid (show (takeK b : Int) = 8 + ((N : Nat) : Int) by rw [hT.1, ← HN.out]; omega)
            have HS := Lib.hid (show decide (bigB (recSum ((b.drop 8).take N)) 4 = (b.drop 4).take 4) = true from decide_eq_true hs)
            clear hE hT hs
            go_region_held3 (fun w' => w'.cell? ⟨w2.heap.size, 0, none⟩ = some (.slice (some ⟨g, off + 8, none⟩) N (c - 8)) ∧ w'.cell? ⟨w2.heap.size, 1, none⟩ = some (.slice (some ⟨g2, 0, none⟩) 4 4)) (first | exact ⟨q0, q1⟩ | fail)
              (first
                | (go_at_call 122; (with_reducible refine (equal_any (some ⟨g2, 0, none⟩) _ 4 4 _ _ _ _ _ _ _ SL3.out S43.out h4m h4m).mono ?_); rintro e w' ⟨rfl, q, rfl⟩; rw [HS.out])
                | fail)
            all_goals go_wp2_with (first
              | (go_at_call 123; (with_reducible refine (cloneB_any _ _ _ ((b.drop 8).take N) _ (P3F.out _) hN10).mono ?_); rintro e w5 ⟨v5, rfl, own5, bel5⟩; have OW5 := Lib.hid (own5.mono (BWF.out _).size); have BW5 := Lib.hid ((BWF.out _).trans (bel5.mono (BWF.out _).size)); clear own5 bel5)
              | fail)
            all_goals go_ret3
            all_goals rw [HE.out, HTK.out, HTV.out]
            all_goals exact ⟨_, rfl, OW5.out, BW5.out⟩
          · have hE := HSUM.out hs
            have hT := take_bad hE (by omega)
            have HE := Lib.hid hE
            have HT := Lib.hid hT
            have HS := Lib.hid (show decide (bigB (recSum ((b.drop 8).take N)) 4 = (b.drop 4).take 4) = false from decide_eq_false hs)
            clear hE hT hs
            go_region_held3 (fun w' => w'.cell? ⟨w2.heap.size, 0, none⟩ = some (.slice (some ⟨g, off + 8, none⟩) N (c - 8)) ∧ w'.cell? ⟨w2.heap.size, 1, none⟩ = some (.slice (some ⟨g2, 0, none⟩) 4 4)) (first | exact ⟨q0, q1⟩ | fail)
              (first
                | (go_at_call 122; (with_reducible refine (equal_any (some ⟨g2, 0, none⟩) _ 4 4 _ _ _ _ _ _ _ SL3.out S43.out h4m h4m).mono ?_); rintro e w' ⟨rfl, q, rfl⟩; rw [HS.out])
                | fail)
            all_goals go_wp2_with fail
            all_goals go_ret3
            all_goals rw [HE.out, HT.out.1, HT.out.2]
            all_goals exact ⟨_, rfl, Own.nil _ _ _ (fun _ h => h.elim) _ _, by first | exact below_drewN BW3.out _ | exact below_drewN (below_drewN BW3.out.drew _) _ | exact (below_drewN BW3.out.drew _).drew | fail⟩
end Go.Proofs.Ythhpddiicnjmmaa
