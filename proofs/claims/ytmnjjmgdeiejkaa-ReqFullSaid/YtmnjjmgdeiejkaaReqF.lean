/- The walk of the law ReqFull. -/
import Derived.Test.YtmnjjmgdeiejkaaReqA
namespace Go.Proofs.Ytmnjjmgdeiejkaa
open Go.RowKit

/-- So many requests that are done. -/
def fullL : Nat → List Req
  | 0 => []
  | i + 1 => fullL i ++ [⟨(i : Int) + 1, (i : Int) % 8, 1, 1, (i : Int), 1, true⟩]

theorem fullL_len : ∀ i, (fullL i).length = i
  | 0 => rfl
  | i + 1 => by rw [fullL, List.length_append, fullL_len i]; rfl

theorem fullL_ahead (i : Nat) : aheadOf (fullL i) ≤ 1 := by
  cases i with
  | zero => decide
  | succ i => rw [fullL, aheadOf_snoc]; exact Int.le_refl _

theorem fullL_open : ∀ (i : Nat) (t : Int), openAt (fullL i) t = false
  | 0, _ => rfl
  | i + 1, t => by rw [fullL, openAt_snoc, fullL_open i t]; simp

theorem full_step (i : Nat) (x : Req) (h1 : x.id = (i : Int) + 1) (h2 : x.table = (i : Int) % 8) (h3 : x.weight = 1) (h4 : x.at_ = 1) (h5 : 0 ≤ x.cursor ∧ x.cursor ≤ 1000) (h6 : 0 ≤ x.chunks ∧ x.chunks ≤ 1000) : stepOk (fullL i) x = true := by
  unfold stepOk
  rw [fullL_len, fullL_open, h1]
  have ha := fullL_ahead i
  simp [oneB]
  omega

theorem full_ok : ∀ (i : Nat), i ≤ 66 → okFrom [] (fullL i) = true
  | 0, _ => rfl
  | i + 1, h => by
    rw [fullL, okFrom_append, full_ok i (by omega), List.nil_append, okFrom, full_step i _ rfl rfl rfl rfl (by dsimp only; omega) (by dsimp only; omega)]
    rfl

theorem full_may {i : Nat} (h : i ≤ 64) : mayB (fullL i) = true := by
  unfold mayB
  rw [full_ok i (by omega), fullL_len]
  simp
  exact h

/-- What Accept leaves. -/
def fullA (i : Nat) : List Req := fullL i ++ [⟨(i : Int) + 1, (i : Int) % 8, 1, 1, 0, 0, false⟩]

theorem full_accept {i : Nat} (h : i < 64) : acceptO (fullL i) ((i : Int) % 8) 1 1 = some (fullA i) := by
  unfold acceptO fullA
  rw [fullL_len, if_pos]
  rw [full_may (by omega), Bool.true_and]
  unfold mayB
  rw [okFrom_append, full_ok i (by omega), List.nil_append, okFrom, full_step i _ rfl rfl rfl rfl (by dsimp only; omega) (by dsimp only; omega), List.length_append, fullL_len]
  simp [okFrom]
  omega

theorem full_refuse {i : Nat} : acceptO (fullL 64) ((i : Int) % 8) 1 1 = none := by
  unfold acceptO
  rw [if_neg]
  rw [Bool.and_eq_true]
  rintro ⟨_, h⟩
  unfold mayB at h
  rw [Bool.and_eq_true, List.length_append, fullL_len] at h
  simp at h

theorem full_chunk {i : Nat} (h : i < 64) : chunkO (fullA i) ((i : Int) + 1) (i : Int) true = some (fullL (i + 1)) := by
  have hx : (fullA i)[i]? = some ⟨(i : Int) + 1, (i : Int) % 8, 1, 1, 0, 0, false⟩ := by
    unfold fullA
    rw [List.getElem?_append_right (by rw [fullL_len]; exact Nat.le_refl _), fullL_len, Nat.sub_self]
    rfl
  have hm : mayB (fullA i) = true := by
    have := full_accept h
    unfold acceptO at this
    split at this
    · rename_i hc
      rw [Bool.and_eq_true, fullL_len] at hc
      exact hc.2
    · cases this
  unfold chunkO
  rw [placed_at hx]
  simp only [Bool.false_eq_true, if_false]
  rw [if_pos ⟨hm, by omega, by omega, by omega⟩, show ((i : Int) + 1 - 1).toNat = i by omega]
  unfold fullA
  rw [List.set_append_right _ _ (by rw [fullL_len]; exact Nat.le_refl _), fullL_len, Nat.sub_self]
  rfl

set_option maxRecDepth 100000 in
set_option maxHeartbeats 4000000 in
theorem reqFull_walk (w : World) (n : Int) (_ : I64 n) :
    Calls Try.prog 13 #[.int .i64 n] w fun e w' => e = .returned (.bool true) ∧ Below w.heap.size w w' := by
  have hk := modOf_range n 5 (by omega)
  obtain ⟨kn, hkn⟩ := Int.eq_ofNat_of_zero_le hk.1
  rw [hkn] at hk
  have hk5 : kn < 5 := by omega
  have HK := Lib.hid hkn
  obtain ⟨k, hkk⟩ : ∃ k : Nat, k = 62 + kn := ⟨_, rfl⟩
  have hki : (62 : Int) + (kn : Int) = (k : Int) := by omega
  have hk1 : 62 ≤ k := by omega
  have hk2 : k ≤ 66 := by omega
  have HKI := Lib.hid hki
  clear hkn hk hki hkk
  go_enter Try.func13, Try.ntmps13
  go_wp2_with (first
    | (go_at_call 19; (with_reducible refine (mod_any n 5 _ (by omega) (by omega)).mono ?_); rintro e w' ⟨rfl, rfl⟩; rw [HK.out])
    | fail)
  rw [HKI.out]
  go_loopw [3, 5] (fun v i wr => ∃ (i0 j : Nat) (A : Option Addr) (c : Nat), i = .int .i64 i0 ∧ i0 ≤ k ∧ j = min i0 64 ∧ v = .slice A j c ∧ IsSl reqRep wr (· < wr.heap.size) A j (fullL j) ∧ Below w.heap.size w wr) (fun _ i _ => 70 - (intOf i).toNat)
  case atStart => exact ⟨0, 0, none, 0, rfl, by omega, rfl, rfl, IsSl.nil, Below.refl _ _⟩
  case round =>
    obtain ⟨i0, j, A, c, rfl, hi0, hj, rfl, hsl, hbel⟩ := hrel
    have SL := Lib.hid hsl
    have hsz := hbel.size
    have HJ := Lib.hid hj
    have hj64 : j ≤ 64 := by omega
    clear hsl
    by_cases hlt : i0 < k
    · have hI8 : I64 ((i0 : Int) % 8) := by unfold I64; omega
      by_cases h64 : i0 < 64
      · obtain rfl : j = i0 := by omega
        have HA := Lib.hid (full_accept h64)
        have HC := Lib.hid (full_chunk h64)
        have hAl : (fullA j).length = j + 1 := by unfold fullA; rw [List.length_append, fullL_len]; rfl
        have HAL := Lib.hid hAl
        have hd1 : decide ((j : Int) < 64) = true := by simp; omega
        clear hj hAl
        go_wp2_with (first
          | (go_at_call 30; (with_reducible refine (accept_any A j c (fullL j) _ 1 1 _ SL.out (by omega) hI8 (by unfold I64; omega) (by unfold I64; omega)).mono ?_); rintro e w2 ⟨v2, rfl, own2, bel2⟩; rw [HA.out] at own2 ⊢; obtain ⟨A2, c2, rfl, _, _, sl2⟩ := own2.isSlA; rw [show ((some (fullA j)).getD []).length = j + 1 from HAL.out] at sl2 ⊢; have SL2 := Lib.hid sl2; have hs2 := bel2.size; have bw2 : Below w.heap.size w w2 := hbel.trans (bel2.mono hsz); clear own2 sl2 bel2)
          | (go_at_call 31; (with_reducible refine (chunk_any A2 (j + 1) c2 (fullA j) ((j : Int) + 1) (j : Int) true _ SL2.out (by omega) (by unfold I64; omega) (by unfold I64; omega)).mono ?_); rintro e w3 ⟨v3, rfl, own3, bel3⟩; rw [HC.out] at own3 ⊢; obtain ⟨A3, c3, rfl, _, _, sl3⟩ := own3.isSlA; rw [show ((some (fullL (j + 1))).getD []).length = j + 1 from fullL_len (j + 1)] at sl3 ⊢; have SL3 := Lib.hid sl3; have hs3 := bel3.size; have bw3 : Below w.heap.size w w3 := bw2.trans (bel3.mono (by omega)); clear own3 sl3 bel3)
          | fail)
        go_roundw
        case rel => exact ⟨j + 1, j + 1, A3, c3, by go_num, by omega, by omega, rfl, SL3.out, bw3⟩
        case measure => simp [intOf]; omega
      · obtain rfl : j = 64 := by omega
        have HA := Lib.hid (full_refuse (i := i0))
        have hd1 : decide ((i0 : Int) < 64) = false := by simp; omega
        clear hj
        go_wp2_with (first
          | (go_at_call 30; (with_reducible refine (accept_any A 64 c (fullL 64) _ 1 1 _ SL.out (by omega) hI8 (by unfold I64; omega) (by unfold I64; omega)).mono ?_); rintro e w2 ⟨v2, rfl, own2, bel2⟩; rw [HA.out]; have hs2 := bel2.size; have SL2 := Lib.hid ((SL.out.below bel2).more hs2); have bw2 : Below w.heap.size w w2 := hbel.trans (bel2.mono hsz); clear own2 bel2)
          | fail)
        go_roundw
        case rel => exact ⟨i0 + 1, 64, A, c, by go_num, by omega, by omega, rfl, SL2.out, bw2⟩
        case measure => simp [intOf]; omega
    · have HM := Lib.hid (full_may hj64)
      obtain rfl : i0 = k := by omega
      have hmin : j = 64 ∧ 64 < i0 ∨ j = i0 ∧ i0 ≤ 64 := by omega
      clear hj hlt hj64 hi0
      rcases hmin with ⟨rfl, hk3⟩ | ⟨rfl, hk3⟩
      all_goals
        go_wp2_with (first
          | (go_at_call 39; (with_reducible refine (awake14_any _).mono ?_); rintro e w5 ⟨rfl, bel5⟩; have hs5 := bel5.size; have SL5 := Lib.hid ((SL.out.below bel5).more hs5); have bw5 : Below w.heap.size w w5 := hbel.trans (bel5.mono hsz); clear bel5)
          | (go_at_call 38; (with_reducible refine (May_any A _ c _ _ SL5.out (by omega)).mono ?_); rintro e w6 ⟨rfl, bel6⟩; rw [HM.out])
          | fail)
        go_ret
        exact ⟨rfl, bw5.trans (bel6.mono (by omega))⟩
end Go.Proofs.Ytmnjjmgdeiejkaa
