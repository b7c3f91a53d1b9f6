/- Contracts: image.mayRows, image.may, ref07.MayImage. Written by gen_img1.py. -/
import Derived.Test.YthhpddiicnjmmaaImgL
import Derived.Test.YthhpddiicnjmmaaBlk
import Derived.Test.YthhpddiicnjmmaaHelpL
import Derived.Deep.RegionHeld3
import Derived.Deep.DeepCutAuto
set_option linter.unusedVariables false
set_option linter.unusedSimpArgs false
set_option maxRecDepth 100000
namespace Go.Proofs.Ythhpddiicnjmmaa
open Go.RowKit

def lastK : Int → List Row → Int
  | a, [] => a
  | _, r :: l => lastK r.key l
theorem mayR_app : ∀ (l m : List Row) (a : Int), mayR a (l ++ m) = (mayR a l && mayR (lastK a l) m)
  | [], m, a => by simp [mayR, lastK]
  | x :: l, m, a => by simp [mayR, lastK, mayR_app l m, Bool.and_assoc]
theorem lastK_app : ∀ (l m : List Row) (a : Int), lastK a (l ++ m) = lastK (lastK a l) m
  | [], m, a => rfl
  | x :: l, m, a => by simp [lastK, lastK_app l m]
theorem mayR_take {l : List Row} {k : Nat} {a : Int} (h : mayR a (l.take k) = false) : mayR a l = false := by
  have := mayR_app (l.take k) (l.drop k) a
  rw [List.take_append_drop, h, Bool.false_and] at this
  exact this
theorem mayR_snoc {l : List Row} {k : Nat} {x : Row} (hx : l[k]? = some x) : mayR 0 (l.take (k + 1)) = (mayR 0 (l.take k) && decide (lastK 0 (l.take k) < x.key ∧ x.key ≤ 1099511627776 ∧ x.val.size ≤ 32)) ∧ lastK 0 (l.take (k + 1)) = x.key := by
  rw [take_snoc hx, mayR_app, lastK_app]
  exact ⟨by simp [mayR], rfl⟩

theorem IsSl.rowI {w w' : World} {S : Nat → Prop} {n k : Nat} {A : Option Addr} {l : List Row} (h : IsSl rowRep w S A n l) (hk : k < n) (hw : ∀ p : Addr, S p.block → w'.cell? p = w.cell? p) :
    ∃ b off x, A = some ⟨b, off, none⟩ ∧ S b ∧ l[k]? = some x ∧ x.wf ∧ w'.cell? ⟨b, off + k * 2, none⟩ = some (.int .i64 x.key) ∧ w'.cell? ⟨b, off + k * 2 + 1, none⟩ = some (.string x.val) := by
  obtain ⟨b, off, x, cs, rfl, hb, hx, ⟨rfl, hwf⟩, hc⟩ := h.at_ hk
  exact ⟨b, off, x, rfl, hb, hx, hwf, (hw _ hb).trans (hc 0 _ rfl), (hw _ hb).trans (hc 1 _ rfl)⟩
theorem IsSl.tabI {w w' : World} {S : Nat → Prop} {n k : Nat} {A : Option Addr} {T : List (List Row)} (h : IsSl (sliceRep rowRep) w S A n T) (hk : k < n) (hw : ∀ p : Addr, S p.block → w'.cell? p = w.cell? p) :
    ∃ b off l A1 n1 c1, A = some ⟨b, off, none⟩ ∧ S b ∧ T[k]? = some l ∧ IsSl rowRep w' S A1 n1 l ∧ n1 ≤ c1 ∧ c1 ≤ maxLen ∧ w'.cell? ⟨b, off + k, none⟩ = some (.slice A1 n1 c1) := by
  obtain ⟨b, off, a, cs, rfl, hb, ha, ⟨A1, n1, c1, rfl, h1, h2, h3⟩, hc⟩ := h.at_ hk
  exact ⟨b, off, a, A1, n1, c1, rfl, hb, ha, h1.keep hw, h2, h3, (hw _ hb).trans (by have := hc 0 _ rfl; simpa [show (sliceRep rowRep).size = 1 from rfl] using this)⟩
theorem bel_n {w w1 w2 : World} (h : Below w.heap.size w w1) (h' : Below w1.heap.size w1 w2) : Below w.heap.size w w2 := h.trans (h'.mono h.size)
theorem IsSl.af {α : Type} {R : Rep α} {w w' : World} {A : Option Addr} {n : Nat} {l : List α} (h : IsSl R w (· < w.heap.size) A n l) (hb : Below w.heap.size w w') : IsSl R w' (· < w'.heap.size) A n l := (h.below hb).more hb.size

set_option maxHeartbeats 8000000 in
theorem imgMayRows_any (A : Option Addr) (n c : Nat) (l : List Row) (w : World) (h : IsSl rowRep w (· < w.heap.size) A n l) (h2 : n ≤ maxLen) :
    Calls Try.prog 112 #[.slice A n c] w fun e w' => e = .returned (.bool (mayRows l)) ∧ Below w.heap.size w w' := by
  have HH := Lib.hid h
  have HL := Lib.hid h.len
  have h2' : n ≤ 9223372036854775807 := by simp only [maxLen] at h2; exact h2
  clear h
  go_enter Try.func112, Try.ntmps112
  go_wp2_with fail
  go_loopw [3, 8] (fun la i wr => ∃ k : Nat, i = .int .i64 k ∧ k ≤ n ∧ la = .int .i64 (lastK 0 (l.take k)) ∧ mayR 0 (l.take k) = true ∧ Below w.heap.size w wr) (fun _ i _ => n - (intOf i).toNat)
  case atStart => exact ⟨0, rfl, Nat.zero_le _, rfl, rfl, Below.refl _ _⟩
  case round =>
    obtain ⟨k, rfl, hk, rfl, hm, hbel⟩ := hrel
    have BE := Lib.hid hbel
    have HM := Lib.hid hm
    obtain ⟨a, ha⟩ : ∃ a, a = lastK 0 (l.take k) := ⟨_, rfl⟩
    rw [← ha]
    have HA := Lib.hid ha
    clear hbel hm ha
    by_cases hlt : k < n
    · obtain ⟨b, off, x, rfl, hb, hx, hwf, c0, c1⟩ := HH.out.rowI hlt (fun p hp => BE.out.cell hp)
      have hd : decide ((k : Int) < (n : Int)) = true := decide_eq_true (by omega)
      have hkm : (k : Int) < (n : Int) := by omega
      have hk0 : (0 : Int) ≤ (k : Int) := by omega
      have HS := Lib.hid (mayR_snoc hx)
      rw [HM.out, Bool.true_and, ← HA.out] at HS
      obtain ⟨xk, xv⟩ := x
      dsimp only at HS c0 c1
      have hb1 := Lib.hid (show Below w.heap.size w (wr.alloc (.cells #[.int .i64 xk, .string xv] 80)) from BE.out.alloc BE.out.size _)
      have hways : decide (xk ≤ a) = true ∨ (decide (xk ≤ a) = false ∧ decide (1099511627776 < xk) = true) ∨ (decide (xk ≤ a) = false ∧ decide (1099511627776 < xk) = false ∧ decide (32 < (xv.size : Int)) = true) ∨ (decide (xk ≤ a) = false ∧ decide (1099511627776 < xk) = false ∧ decide (32 < (xv.size : Int)) = false) := by
        cases decide (xk ≤ a) <;> cases decide (1099511627776 < xk) <;> cases decide (32 < (xv.size : Int)) <;> simp
      clear hx hwf
      rcases hways with d1 | ⟨d1, d2⟩ | ⟨d1, d2, d3⟩ | ⟨d1, d2, d3⟩
      · have HF := Lib.hid (show mayRows l = false by
          have e : mayR 0 (l.take (k + 1)) = false := by rw [HS.out.1]; exact decide_eq_false (by have := of_decide_eq_true d1; omega)
          unfold mayRows; rw [mayR_take e, Bool.false_and])
        go_wp2_with fail
        go_ret
        exact ⟨(by rw [HF.out]; first | done | rfl), hb1.out⟩
      · have HF := Lib.hid (show mayRows l = false by
          have e : mayR 0 (l.take (k + 1)) = false := by rw [HS.out.1]; exact decide_eq_false (by have := of_decide_eq_true d2; omega)
          unfold mayRows; rw [mayR_take e, Bool.false_and])
        go_wp2_with fail
        go_ret
        exact ⟨(by rw [HF.out]; first | done | rfl), hb1.out⟩
      · have HF := Lib.hid (show mayRows l = false by
          have e : mayR 0 (l.take (k + 1)) = false := by rw [HS.out.1]; exact decide_eq_false (by have := of_decide_eq_true d3; omega)
          unfold mayRows; rw [mayR_take e, Bool.false_and])
        go_wp2_with fail
        go_ret
        exact ⟨(by rw [HF.out]; first | done | rfl), hb1.out⟩
      · have HT := Lib.hid (show mayR 0 (l.take (k + 1)) = true by rw [HS.out.1]; exact decide_eq_true (by have := of_decide_eq_false d1; have := of_decide_eq_false d2; have := of_decide_eq_false d3; omega))
        go_wp2_with fail
        go_roundw
        case rel => exact ⟨k + 1, by go_num, by omega, by rw [HS.out.2], HT.out, hb1.out⟩
        case measure => simp [intOf]; omega
    · obtain rfl : k = n := by omega
      have hkk : decide ((k : Int) < (k : Int)) = false := by simp
      have HF := Lib.hid (show mayRows l = decide ((k : Int) ≤ 1000) by
        have hm := HM.out
        rw [List.take_of_length_le (by rw [← HL.out]; exact Nat.le_refl _)] at hm
        unfold mayRows
        rw [hm, Bool.true_and, ← HL.out, Bool.eq_iff_iff]
        simp
        omega)
      clear hlt
      go_wp2_with fail
      go_ret
      exact ⟨(by rw [HF.out]; first | done | rfl), BE.out⟩

theorem mayImg_no {x : Img} (h : x.1 < 0 ∨ 1099511627776 < x.1 ∨ x.2.length < 1 ∨ 8 < x.2.length) : mayImg x = false := by
  unfold mayImg
  rw [decide_eq_false (by omega), Bool.false_and]
theorem mayImg_stop {x : Img} {k : Nat} {l : List Row} (hx : x.2[k]? = some l) (h : mayRows l = false) : mayImg x = false := by
  unfold mayImg
  rw [show x.2.all mayRows = false from Bool.eq_false_iff.2 (fun e => by have := List.all_eq_true.1 e l (List.mem_of_getElem? hx); rw [h] at this; cases this), Bool.and_false]
theorem mayImg_yes {x : Img} (h1 : ¬ x.1 < 0) (h2 : ¬ 1099511627776 < x.1) (h3 : ¬ x.2.length < 1) (h4 : ¬ 8 < x.2.length) (h : x.2.all mayRows = true) : mayImg x = true := by
  unfold mayImg
  rw [decide_eq_true (by omega), h]
  rfl

set_option maxHeartbeats 8000000 in
theorem imgMay_any (lsn : Int) (A : Option Addr) (n c : Nat) (T : List (List Row)) (w : World) (h : IsSl (sliceRep rowRep) w (· < w.heap.size) A n T) :
    Calls Try.prog 49 #[.int .i64 lsn, .slice A n c] w fun e w' => e = .returned (.bool (mayImg (lsn, T))) ∧ Below w.heap.size w w' := by
  have HH := Lib.hid h
  have HL := Lib.hid h.len
  clear h
  have hways : decide (lsn < 0) = true ∨ (decide (lsn < 0) = false ∧ decide (1099511627776 < lsn) = true) ∨ (decide (lsn < 0) = false ∧ decide (1099511627776 < lsn) = false ∧ decide ((n : Int) < 1) = true) ∨ (decide (lsn < 0) = false ∧ decide (1099511627776 < lsn) = false ∧ decide ((n : Int) < 1) = false ∧ decide (8 < (n : Int)) = true) ∨ (decide (lsn < 0) = false ∧ decide (1099511627776 < lsn) = false ∧ decide ((n : Int) < 1) = false ∧ decide (8 < (n : Int)) = false) := by
    cases decide (lsn < 0) <;> cases decide (1099511627776 < lsn) <;> cases decide ((n : Int) < 1) <;> cases decide (8 < (n : Int)) <;> simp
  rcases hways with d1 | ⟨d1, d2⟩ | ⟨d1, d2, d3⟩ | ⟨d1, d2, d3, d4⟩ | ⟨d1, d2, d3, d4⟩
  · have HF := Lib.hid (mayImg_no (x := (lsn, T)) (.inl (of_decide_eq_true d1)))
    go_enter Try.func49, Try.ntmps49
    go_wp2_with fail
    go_ret
    exact ⟨(by rw [HF.out]; first | done | rfl), Below.refl _ _⟩
  · have HF := Lib.hid (mayImg_no (x := (lsn, T)) (.inr (.inl (of_decide_eq_true d2))))
    go_enter Try.func49, Try.ntmps49
    go_wp2_with fail
    go_ret
    exact ⟨(by rw [HF.out]; first | done | rfl), Below.refl _ _⟩
  · have HF := Lib.hid (mayImg_no (x := (lsn, T)) (.inr (.inr (.inl (by have := of_decide_eq_true d3; have := HL.out; show T.length < 1; omega)))))
    go_enter Try.func49, Try.ntmps49
    go_wp2_with fail
    go_ret
    exact ⟨(by rw [HF.out]; first | done | rfl), Below.refl _ _⟩
  · have HF := Lib.hid (mayImg_no (x := (lsn, T)) (.inr (.inr (.inr (by have := of_decide_eq_true d4; have := HL.out; show 8 < T.length; omega)))))
    go_enter Try.func49, Try.ntmps49
    go_wp2_with fail
    go_ret
    exact ⟨(by rw [HF.out]; first | done | rfl), Below.refl _ _⟩
  · have hn8 : n ≤ 8 := by have := of_decide_eq_false d4; omega
    have HY := Lib.hid (fun h => mayImg_yes (x := (lsn, T)) (of_decide_eq_false d1) (of_decide_eq_false d2) (by have := of_decide_eq_false d3; have := HL.out; show ¬ T.length < 1; omega) (by have := of_decide_eq_false d4; have := HL.out; show ¬ 8 < T.length; omega) h)
    go_enter Try.func49, Try.ntmps49
    go_wp2_with fail
    go_loopw [25] (fun i wr => ∃ k : Nat, i = .int .i64 k ∧ k ≤ n ∧ (T.take k).all mayRows = true ∧ Below w.heap.size w wr) (fun i _ => n - (intOf i).toNat)
    case atStart => exact ⟨0, rfl, Nat.zero_le _, rfl, Below.refl _ _⟩
    case round =>
      obtain ⟨k, rfl, hk, hm, hbel⟩ := hrel
      have BE := Lib.hid hbel
      have HM := Lib.hid hm
      clear hbel hm
      by_cases hlt : k < n
      · obtain ⟨b, off, l, A1, n1, c1, rfl, hb, hx, s1, l1, m1, hc⟩ := HH.out.tabI hlt (fun p hp => BE.out.cell hp)
        have hd : decide ((k : Int) < (n : Int)) = true := decide_eq_true (by omega)
        have hkm : (k : Int) < (n : Int) := by omega
        have hk0 : (0 : Int) ≤ (k : Int) := by omega
        have S1 := Lib.hid (s1.more BE.out.size)
        have HX := Lib.hid hx
        have hn1m : n1 ≤ maxLen := Nat.le_trans l1 m1
        clear s1 hx
        cases hr : mayRows l
        · have HR := Lib.hid hr
          have HF := Lib.hid (mayImg_stop (x := (lsn, T)) HX.out hr)
          clear hr
          go_wp2_with (first
            | (go_at_call 112; (with_reducible refine (imgMayRows_any A1 n1 c1 l wr S1.out hn1m).mono ?_); rintro e w1 ⟨rfl, bel1⟩; rw [HR.out]; have B1 := Lib.hid (bel_n BE.out bel1); clear bel1)
            | fail)
          go_ret
          exact ⟨(by rw [HF.out]; first | done | rfl), B1.out⟩
        · have HR := Lib.hid hr
          clear hr
          go_wp2_with (first
            | (go_at_call 112; (with_reducible refine (imgMayRows_any A1 n1 c1 l wr S1.out hn1m).mono ?_); rintro e w1 ⟨rfl, bel1⟩; rw [HR.out]; have B1 := Lib.hid (bel_n BE.out bel1); clear bel1)
            | fail)
          go_roundw
          case rel => exact ⟨k + 1, by go_num, by omega, by rw [take_snoc HX.out, List.all_append, HM.out, List.all_cons, HR.out]; rfl, B1.out⟩
          case measure => simp [intOf]; omega
      · obtain rfl : k = n := by omega
        have hkk : decide ((k : Int) < (k : Int)) = false := by simp
        have HF := Lib.hid (HY.out (by
          have hm := HM.out
          rw [List.take_of_length_le (by rw [← HL.out]; exact Nat.le_refl _)] at hm
          exact hm))
        clear hlt
        go_wp2_with fail
        go_ret
        exact ⟨(by rw [HF.out]; first | done | rfl), BE.out⟩
end Go.Proofs.Ythhpddiicnjmmaa
