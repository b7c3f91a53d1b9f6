/- Plain: what Take answers; the reference's Take. -/
import Derived.Test.YthhpddiicnjmmaaRec5
import Derived.Test.YthhpddiicnjmmaaFldP
import Derived.Test.YthhpddiicnjmmaaFld7
import Derived.Deep.RegionHeld3
set_option maxRecDepth 100000
namespace Go.Proofs.Ythhpddiicnjmmaa
open Go.RowKit

def takeN (b : List UInt8) : Nat := numB (b.take 4)
def takeE (b : List UInt8) : Int :=
  if b.length < 8 then 2 else if 1048576 < takeN b then 3 else if b.length < 8 + takeN b then 2
  else if moreC (moreC 0 (b.take 4)) ((b.drop 8).take (takeN b)) = numB ((b.drop 4).take 4) then 0 else 4
def takeK (b : List UInt8) : Nat := if takeE b = 0 then 8 + takeN b else 0
def takeV (b : List UInt8) : List UInt8 := if takeE b = 0 then (b.drop 8).take (takeN b) else []

theorem take_bad {b : List UInt8} {e : Int} (h : takeE b = e) (he : e ≠ 0) : takeK b = 0 ∧ takeV b = [] := by
  unfold takeK takeV
  rw [if_neg (by rw [h]; exact he), if_neg (by rw [h]; exact he)]
  exact ⟨rfl, rfl⟩

theorem take_good {b : List UInt8} (h : takeE b = 0) : takeK b = 8 + takeN b ∧ takeV b = (b.drop 8).take (takeN b) := by
  unfold takeK takeV
  rw [if_pos h, if_pos h]
  exact ⟨rfl, rfl⟩

theorem takeN_lt (b : List UInt8) : takeN b < 4294967296 := by
  have := numB_lt (b.take 4)
  have h2 : (b.take 4).length ≤ 4 := by simp; omega
  have h3 : 256 ^ (b.take 4).length ≤ 256 ^ 4 := Nat.pow_le_pow_right (by omega) h2
  unfold takeN
  omega

theorem numB4_lt (b : List UInt8) : numB (b.take 4) < 4294967296 := takeN_lt b

theorem takeE_short {b : List UInt8} (h : b.length < 8) : takeE b = 2 := by unfold takeE; rw [if_pos h]
theorem takeE_form {b : List UInt8} (h : ¬ b.length < 8) (h2 : 1048576 < takeN b) : takeE b = 3 := by unfold takeE; rw [if_neg h, if_pos h2]
theorem takeE_cut {b : List UInt8} (h : ¬ b.length < 8) (h2 : ¬ 1048576 < takeN b) (h3 : b.length < 8 + takeN b) : takeE b = 2 := by unfold takeE; rw [if_neg h, if_neg h2, if_pos h3]
theorem takeE_ok {b : List UInt8} (h : ¬ b.length < 8) (h2 : ¬ 1048576 < takeN b) (h3 : ¬ b.length < 8 + takeN b) (h4 : moreC (moreC 0 (b.take 4)) ((b.drop 8).take (takeN b)) = numB ((b.drop 4).take 4)) : takeE b = 0 := by unfold takeE; rw [if_neg h, if_neg h2, if_neg h3, if_pos h4]
theorem takeE_sum {b : List UInt8} (h : ¬ b.length < 8) (h2 : ¬ 1048576 < takeN b) (h3 : ¬ b.length < 8 + takeN b) (h4 : ¬ moreC (moreC 0 (b.take 4)) ((b.drop 8).take (takeN b)) = numB ((b.drop 4).take 4)) : takeE b = 4 := by unfold takeE; rw [if_neg h, if_neg h2, if_neg h3, if_neg h4]

/-- The record's sum, where its four first bytes tell its length. -/
theorem recSum_take {b : List UInt8} (h8 : ¬ b.length < 8) (h : ¬ b.length < 8 + takeN b) : recSum ((b.drop 8).take (takeN b)) = moreC (moreC 0 (b.take 4)) ((b.drop 8).take (takeN b)) := by
  unfold recSum
  have hl : ((b.drop 8).take (takeN b)).length = takeN b := by rw [List.length_take, List.length_drop]; omega
  have h4 : (b.take 4).length = 4 := by simp; omega
  rw [hl]
  have := bigB_numB (b.take 4)
  rw [h4] at this
  unfold takeN
  rw [this]

/-- A sum in four bytes is theirs where the number is. -/
theorem sum_eq {x : Nat} {l : List UInt8} (hx : x < 4294967296) (hl : l.length = 4) : (bigB x 4 = l) ↔ x = numB l := by
  constructor
  · intro e
    rw [← e, numB_bigB]
    omega
  · intro e
    have := bigB_numB l
    rw [hl] at this
    rw [e, this]

set_option maxHeartbeats 2000000 in
theorem reftake_any (A : Option Addr) (n c : Nat) (b : List UInt8) (w : World) (h : IsSl byteRep w (· < w.heap.size) A n b) (h1 : n ≤ c) (h2 : c ≤ maxLen) :
    Calls Try.prog 68 #[.slice A n c] w fun e w' => ∃ v, e = .returned (.tuple #[v, .int .i64 (takeK b : Int), .int .i64 (takeE b)]) ∧ Own byteRep w' w.heap.size (fun _ => False) 5 v (takeV b) ∧ Below w.heap.size w w' := by
  obtain ⟨i0, hi, hz0, hz1, hz2⟩ := info_parts info_byte
  have HL := Lib.hid h.len
  have hnm : n ≤ 9223372036854775807 := by unfold maxLen at h2; omega
  by_cases h8 : n < 8
  · have hE := takeE_short (b := b) (by rw [← HL.out]; exact h8)
    have hT := take_bad hE (by omega)
    have HE := Lib.hid hE
    have HT := Lib.hid hT
    clear hE hT h
    go_enter Try.func68, Try.ntmps68
    go_wp2_with fail
    go_ret3
    rw [HE.out, HT.out.1, HT.out.2]
    exact ⟨_, rfl, Own.nil _ _ _ (fun _ h => h.elim) _ _, Below.refl _ _⟩
  · obtain ⟨g, off, x, cs, rfl, hgS, _, _, _⟩ := h.at_ (k := 0) (by omega)
    have N8 := Lib.hid (show ¬ b.length < 8 by rw [← HL.out]; exact h8)
    have H4 := Lib.hid (h.cutTo (hi := 4) (by omega))
    have S4 := Lib.hid (h.mid (lo := 4) (m := 4) (by omega))
    have H := Lib.hid h
    have hlt := takeN_lt b
    obtain ⟨N, hN⟩ : ∃ N, N = takeN b := ⟨_, rfl⟩
    have HN := Lib.hid hN
    rw [← hN] at hlt
    have HNN := Lib.hid (show numB (b.take 4) = N from hN.symm)
    clear hN h
    by_cases hbig : 1048576 < N
    · have hE := takeE_form N8.out (by rw [← HN.out]; exact hbig)
      have hT := take_bad hE (by omega)
      have HE := Lib.hid hE
      have HT := Lib.hid hT
      clear hE hT
      go_enter Try.func68, Try.ntmps68
      go_wp2_with (first
        | (go_at_call 129; (with_reducible refine (refnumber_any _ 4 c (b.take 4) _ H4.out (by omega)).mono ?_); rintro e w' ⟨rfl, rfl⟩; rw [HNN.out])
        | fail)
      go_ret3
      rw [HE.out, HT.out.1, HT.out.2]
      exact ⟨_, rfl, Own.nil _ _ _ (fun _ h => h.elim) _ _, Below.refl _ _⟩
    · by_cases hcut : n < 8 + N
      · have hE := takeE_cut N8.out (by rw [← HN.out]; exact hbig) (by rw [← HN.out, ← HL.out]; exact hcut)
        have hT := take_bad hE (by omega)
        have HE := Lib.hid hE
        have HT := Lib.hid hT
        clear hE hT
        have hcd : decide ((n : Int) - 8 < (N : Int)) = true := by simp; omega
        go_enter Try.func68, Try.ntmps68
        go_wp2_with (first
          | (go_at_call 129; (with_reducible refine (refnumber_any _ 4 c (b.take 4) _ H4.out (by omega)).mono ?_); rintro e w' ⟨rfl, rfl⟩; rw [HNN.out])
          | fail)
        go_ret3
        rw [HE.out, HT.out.1, HT.out.2]
        exact ⟨_, rfl, Own.nil _ _ _ (fun _ h => h.elim) _ _, Below.refl _ _⟩
      · have hcd : decide ((n : Int) - 8 < (N : Int)) = false := by simp; omega
        have hNm : N ≤ maxLen := by unfold maxLen; omega
        have h4 : (4 : Nat) ≤ maxLen := by unfold maxLen; omega
        have P := Lib.hid (H.out.mid (lo := 8) (m := N) (by omega))
        have hs1 : moreC 0 (b.take 4) < 4294967296 := moreC_lt _ _ (by omega)
        have HS := Lib.hid (show moreC (moreC 0 (b.take 4)) ((b.drop 8).take N) < 4294967296 from moreC_lt _ _ hs1)
        have HSn := Lib.hid (show numB ((b.drop 4).take 4) < 4294967296 from takeN_lt (b.drop 4))
        obtain ⟨s, hs⟩ : ∃ s, s = moreC (moreC 0 (b.take 4)) ((b.drop 8).take N) := ⟨_, rfl⟩
        obtain ⟨t, ht⟩ : ∃ t, t = numB ((b.drop 4).take 4) := ⟨_, rfl⟩
        have hsl := HS.out
        have htl := HSn.out
        rw [← hs] at hsl
        rw [← ht] at htl
        have HSE := Lib.hid hs
        have HTE := Lib.hid ht
        clear hs ht
        have H4d : IsSl byteRep w.drew (· < w.drew.heap.size) (some ⟨g, off, none⟩) 4 (b.take 4) := H4.out.keep fun _ _ => rfl
        have H4D := Lib.hid H4d
        have S4d : IsSl byteRep w.drew (· < w.drew.heap.size) (some ⟨g, off + 4, none⟩) 4 ((b.drop 4).take 4) := S4.out.keep fun _ _ => rfl
        have S4D := Lib.hid S4d
        have Pd : IsSl byteRep w.drew (· < w.drew.heap.size) (some ⟨g, off + 8, none⟩) N ((b.drop 8).take N) := P.out.keep fun _ _ => rfl
        have PD := Lib.hid Pd
        have P0D := Lib.hid (show c = 8 → IsSl byteRep w.drew (· < w.drew.heap.size) (some ⟨g, off, none⟩) N ((b.drop 8).take N) by
          intro e
          obtain rfl : N = 0 := by omega
          exact IsSl.nil)
        have P0 := Lib.hid (show c = 8 → IsSl byteRep w (· < w.heap.size) (some ⟨g, off, none⟩) N ((b.drop 8).take N) by
          intro e
          obtain rfl : N = 0 := by omega
          exact IsSl.nil)
        clear H4d S4d Pd
        have hc8 : 8 ≤ c := by omega
        have hc4 : 4 ≤ c := by omega
        have hci4 : (4 : Int) ≤ (c : Int) := by omega
        have hci8 : (8 : Int) ≤ (c : Int) := by omega
        have hcn4 : ¬ c = 4 := by omega
        have hcn0 : ¬ c = 0 := by omega
        have hcs : ¬ c - 4 = 0 := by omega
        have hcb : decide (c = 4) = false := by simp; omega
        have hcq : (c == 4) = false := by simp; omega
        have hwr : IntKind.u64.wrap (s : Int) = (s : Int) := wrap_u64 s (by omega)
        by_cases hst : s = t
        · have hE := takeE_ok N8.out (by rw [← HN.out]; exact hbig) (by rw [← HN.out, ← HL.out]; exact hcut) (by rw [← HN.out, ← HSE.out, ← HTE.out]; exact hst)
          have hT := take_good hE
          have HE := Lib.hid hE
          have HT := Lib.hid hT
          have HTV := Lib.hid (show takeV b = (b.drop 8).take N by rw [HT.out.2, HN.out])
          have HTK := Lib.hid (show (takeK b : Int) = 8 + (N : Int) by rw [HT.out.1, HN.out]; omega)
          subst hst
          have hb0 : Below w.heap.size w (w.drew.alloc (.cells #[] 5)) := ((Below.refl _ _).drew).alloc (Nat.le_refl _) _
          clear hE hT
          go_enter Try.func68, Try.ntmps68
          go_wp2_with (first
            | (go_at_call 129; (with_reducible refine (refnumber_any _ 4 c (b.take 4) _ H4.out (by omega)).mono ?_); rintro e w' ⟨rfl, rfl⟩; rw [HNN.out])
            | fail)
          all_goals go_region_held3 (fun w' => ∀ p, w'.cell? p = w.cell? p) (first | exact fun _ => rfl)
            (first
              | (go_at_call 121; (with_reducible refine (refsum_any _ 4 _ (b.take 4) _ _ H4D.out h4).mono ?_); rintro e w' ⟨rfl, rfl⟩)
              | (go_at_call 120; (first | (with_reducible refine (refmore_any (moreC 0 (b.take 4)) _ N _ ((b.drop 8).take N) _ _ hs1 PD.out hNm).mono ?_) | (with_reducible refine (refmore_any (moreC 0 (b.take 4)) _ N _ ((b.drop 8).take N) _ _ hs1 (P0D.out (by assumption)) hNm).mono ?_)); rintro e w' ⟨rfl, rfl⟩; rw [← HSE.out])
              | (go_at_call 129; (with_reducible refine (refnumber_any _ 4 _ ((b.drop 4).take 4) _ S4D.out (by omega)).mono ?_); rintro e w' ⟨rfl, rfl⟩; rw [← HTE.out])
              | fail)
          all_goals go_wp2_with (first
            | (at_builtin; refine wpList_append_Own _ rfl _ _ 25 rfl w.heap.size 5 i0 _ 1 Try.underlying25 hi hz0 hz1 hz2 rfl (R := byteRep) (S := fun _ => False) (l := []) (l' := (b.drop 8).take N) (.slice (some ⟨w.heap.size, 0, none⟩) 0 0) rfl (Own.nil _ _ _ (fun _ h => h.elim) _ _) _ N _ rfl (by first | exact P.out.srcF flat_byte hb0 | exact (P0.out (by assumption)).srcF flat_byte hb0) (by simp only [maxLen, List.length_nil]; omega) (by simp only [List.length_nil]; omega) (by omega) (by simp) ?_; intro v1 w1 own1 gr1 at1; have hb1 := hb0.grown gr1 (by simp) (by intro k hk; simp [rowOf] at hk); simp only [List.nil_append] at own1; clear gr1 at1)
            | fail)
          all_goals go_ret3
          all_goals rw [HE.out, HTK.out, HTV.out]
          all_goals exact ⟨_, rfl, own1, hb1⟩
        · have hE := takeE_sum N8.out (by rw [← HN.out]; exact hbig) (by rw [← HN.out, ← HL.out]; exact hcut) (by rw [← HN.out, ← HSE.out, ← HTE.out]; exact hst)
          have hT := take_bad hE (by omega)
          have HE := Lib.hid hE
          have HT := Lib.hid hT
          have hne : ((s : Int) == (t : Int)) = false := by simp; omega
          have hne2 : ((s : Int) != (t : Int)) = true := by simp; omega
          clear hE hT hst
          go_enter Try.func68, Try.ntmps68
          go_wp2_with (first
            | (go_at_call 129; (with_reducible refine (refnumber_any _ 4 c (b.take 4) _ H4.out (by omega)).mono ?_); rintro e w' ⟨rfl, rfl⟩; rw [HNN.out])
            | fail)
          all_goals go_region_held3 (fun w' => ∀ p, w'.cell? p = w.cell? p) (first | exact fun _ => rfl)
            (first
              | (go_at_call 121; (with_reducible refine (refsum_any _ 4 _ (b.take 4) _ _ H4D.out h4).mono ?_); rintro e w' ⟨rfl, rfl⟩)
              | (go_at_call 120; (first | (with_reducible refine (refmore_any (moreC 0 (b.take 4)) _ N _ ((b.drop 8).take N) _ _ hs1 PD.out hNm).mono ?_) | (with_reducible refine (refmore_any (moreC 0 (b.take 4)) _ N _ ((b.drop 8).take N) _ _ hs1 (P0D.out (by assumption)) hNm).mono ?_)); rintro e w' ⟨rfl, rfl⟩; rw [← HSE.out])
              | (go_at_call 129; (with_reducible refine (refnumber_any _ 4 _ ((b.drop 4).take 4) _ S4D.out (by omega)).mono ?_); rintro e w' ⟨rfl, rfl⟩; rw [← HTE.out])
              | fail)
          all_goals go_wp2_with fail
          all_goals go_ret3
          all_goals rw [HE.out, HT.out.1, HT.out.2]
          all_goals exact ⟨_, rfl, Own.nil _ _ _ (fun _ h => h.elim) _ _, (Below.refl _ _).drew⟩
end Go.Proofs.Ythhpddiicnjmmaa
