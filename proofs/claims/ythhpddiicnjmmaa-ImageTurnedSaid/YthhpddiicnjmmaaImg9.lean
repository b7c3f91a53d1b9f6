/- Contract of the law's right (layer 10): tables that may be an image, of any ones. -/
import Derived.Test.YthhpddiicnjmmaaImgR
import Derived.Test.YthhpddiicnjmmaaImg8
import Derived.Deep.RegionHeld3
import Derived.Deep.QuietTactic
import Derived.BigQuiet
set_option linter.unusedVariables false
set_option linter.unusedSimpArgs false
set_option maxRecDepth 100000
namespace Go.Proofs.Ythhpddiicnjmmaa
open Go.RowKit

theorem OwnTb.next0 {w w' : World} {base : Nat} {v : Value} {T : List (List Row)} {S : Nat → Prop} (h : Own (sliceRep rowRep) w base S 81 v T) (bel : Below w.heap.size w w') : Own (sliceRep rowRep) w' base (fun b => S b ∨ (w.heap.size ≤ b ∧ b < w'.heap.size)) 81 v T :=
  (h.below bel).weakS (fun _ h => .inl h) (fun b hb => Or.elim hb (fun h2 => by have := h.1 b h2; have := bel.size; omega) (fun h2 => h2.2)) (fun q hq hb => Or.elim hb (fun h2 => h.row_out hq h2) (fun h2 => by have := h.row_lt hq; omega))
theorem tabs_one {w : World} {d : Nat} (hd : d = w.heap.size) : IsSl (sliceRep rowRep) (w.alloc (.cells #[.slice none 0 0] 81)) (· < (w.alloc (.cells #[.slice none 0 0] 81)).heap.size) (some ⟨d, 0, none⟩) 1 [[]] := by
  subst hd
  have r2 := Rows.single (R := sliceRep rowRep) (w := w.alloc (.cells #[.slice none 0 0] 81)) (S := (· < (w.alloc (.cells #[.slice none 0 0] 81)).heap.size)) (cs := [.slice none 0 0]) (a := []) ⟨none, 0, 0, rfl, IsSl.nil, Nat.le_refl _, Nat.zero_le _⟩
  exact ⟨rfl, _, r2, fun _ => ⟨w.heap.size, 0, rfl, by simp, fun j u hu => by rw [Nat.zero_add, World.cell?_alloc_at _ _ _ _ rfl]; simpa using hu⟩⟩

set_option maxHeartbeats 16000000 in
theorem right10_any (A : Option Addr) (n c : Nat) (T : List (List Row)) (w : World) (h : IsSl (sliceRep rowRep) w (· < w.heap.size) A n T) :
    Calls Try.prog 16 #[.slice A n c] w fun e w' => ∃ A2 c2, e = .returned (.slice A2 (rightT T).length c2) ∧ IsSl (sliceRep rowRep) w' (· < w'.heap.size) A2 (rightT T).length (rightT T) ∧ (rightT T).length ≤ c2 ∧ c2 ≤ maxLen ∧ Below w.heap.size w w' := by
  obtain ⟨i0, hi, hz0, hz1, hz2⟩ := info_parts info_tab
  have HH := Lib.hid h
  have HL := Lib.hid h.len
  clear h
  go_enter Try.func16, Try.ntmps16
  go_wp2_with fail
  go_loopw [3, 4] (fun v i wr => ∃ k : Nat, i = .int .i64 k ∧ k ≤ n ∧ k ≤ 8 ∧ OwnTb wr w.heap.size v ((T.take k).map tabR) ∧ Below w.heap.size w wr) (fun _ i _ => 8 - (intOf i).toNat)
  case atStart => exact ⟨0, rfl, Nat.zero_le _, Nat.zero_le _, ⟨fun _ => False, fun _ h => h.elim, Own.nil _ _ _ (fun _ h => h.elim) _ _⟩, Below.refl _ _⟩
  case round =>
    obtain ⟨wo, rfl⟩ : ∃ x : World, x = wr := ⟨_, rfl⟩
    obtain ⟨k, rfl, hkn, hk8, hown, hbel⟩ := hrel
    obtain ⟨acc, hacc⟩ : ∃ acc, acc = (T.take k).map tabR := ⟨_, rfl⟩
    rw [← hacc] at hown
    have HACC := Lib.hid hacc
    have hal : acc.length = k := by rw [hacc, List.length_map, List.length_take, ← HL.out]; omega
    have hsz := hbel.size
    have BE := Lib.hid hbel
    clear hacc hbel
    by_cases hlt : k < n ∧ k < 8
    · obtain ⟨h1, h2⟩ := hlt
      obtain ⟨S, hS, how⟩ := hown
      have HS := Lib.hid hS
      have OW := Lib.hid how
      clear hS how
      obtain ⟨b, off, l, A1, n1, c1, rfl, hb, hx, s1, l1, m1, hc⟩ := HH.out.tabI h1 (fun p hp => BE.out.cell hp)
      have HN := Lib.hid (show (T.take (k + 1)).map tabR = acc ++ [tabR l] by rw [take_snoc hx, List.map_append, ← HACC.out]; rfl)
      have S1 := Lib.hid s1
      have hn1 := s1.len
      have HN1 := Lib.hid hn1
      have hbo : b < wo.heap.size := Nat.lt_of_lt_of_le hb hsz
      have hd1 : decide ((k : Int) < (n : Int)) = true := decide_eq_true (by omega)
      have hd2 : decide ((k : Int) < 8) = true := decide_eq_true (by omega)
      have hkm : (k : Int) < (n : Int) := by omega
      have hk0 : (0 : Int) ≤ (k : Int) := by omega
      clear hx s1 hn1
      go_wp2_with fail
      go_loopw [5, 6] (fun v i wr => ∃ j : Nat, i = .int .i64 j ∧ j ≤ n1 ∧ j ≤ 40 ∧ Own rowRep wr wo.heap.size (fun _ => False) 80 v (tabN l j) ∧ Below wo.heap.size wo wr) (fun _ i _ => 40 - (intOf i).toNat)
      case atStart => exact ⟨0, rfl, Nat.zero_le _, Nat.zero_le _, Own.nil _ _ _ (fun _ h => h.elim) _ _, Below.refl _ _⟩
      case round =>
        obtain ⟨wi, rfl⟩ : ∃ x : World, x = wr := ⟨_, rfl⟩
        obtain ⟨j, rfl, hjn, hj40, hown2, hbel2⟩ := hrel
        have BI := Lib.hid hbel2
        have hcw : wi.cell? ⟨b, off + k, none⟩ = some (.slice A1 n1 c1) := (hbel2.cell (p := ⟨b, off + k, none⟩) hbo).trans hc
        have hsi := hbel2.size
        have htl := tabN_len l j
        obtain ⟨tt, htt⟩ : ∃ tt, tt = tabN l j := ⟨_, rfl⟩
        rw [← htt] at hown2 htl
        have HTT := Lib.hid htt
        have OI := Lib.hid hown2
        obtain ⟨A7, c7, rfl, l7, m7, sl7⟩ := hown2.isSlB
        obtain ⟨n7, hn7⟩ : ∃ n7, n7 = tt.length := ⟨_, rfl⟩
        rw [← hn7] at sl7 l7 OI htl ⊢
        have SL7 := Lib.hid sl7
        clear hown2 hbel2 htt sl7 hn7
        by_cases hlt2 : j < n1 ∧ j < 40
        · obtain ⟨h3, h4⟩ := hlt2
          obtain ⟨b3, o3, y, rfl, hb3, hy, hw3, hk3, hv3⟩ := S1.out.rowI h3 (fun p hp => BI.out.cell (by have := hp; omega))
          have HY := Lib.hid (tabN_next hy)
          have hd3 : decide ((j : Int) < (n1 : Int)) = true := decide_eq_true (by omega)
          have hd4 : decide ((j : Int) < 40) = true := decide_eq_true (by omega)
          have hjm : (j : Int) < (n1 : Int) := by omega
          have hj0 : (0 : Int) ≤ (j : Int) := by omega
          have hrr := modOf_range y.key 1099511627776 (by omega)
          have hwr : IntKind.i64.wrap (1 + modOf y.key 1099511627776) = 1 + modOf y.key 1099511627776 := IntWalk.i64_in _ (by omega)
          have HVS : Hid (y.val.size ≤ maxLen) := Lib.hid hw3.2
          have HRM := Lib.hid (rowR_may y)
          have hsd : wi.drew.heap.size = wi.heap.size := rfl
          have SLD := Lib.hid (show IsSl rowRep wi.drew (· < wi.drew.heap.size) A7 n7 tt from SL7.out.keep (fun _ _ => rfl))
          have HCD := Lib.hid (show wi.drew.cell? ⟨b, off + k, none⟩ = some (.slice (some ⟨b3, o3, none⟩) n1 c1) ∧ wi.drew.cell? ⟨b3, o3 + j * 2, none⟩ = some (.int .i64 y.key) ∧ wi.drew.cell? ⟨b3, o3 + j * 2 + 1, none⟩ = some (.string y.val) from ⟨hcw, hk3, hv3⟩)
          have hbi : b < wi.drew.heap.size := Nat.lt_of_lt_of_le hbo hsi
          have hb3i : b3 < wi.drew.heap.size := Nat.lt_of_lt_of_le hb3 (Nat.le_trans hsz hsi)
          clear hy hw3
          go_wp2_with fail
          go_region_held3 (fun w' => w'.cell? ⟨b, off + k, none⟩ = some (.slice (some ⟨b3, o3, none⟩) n1 c1) ∧ w'.cell? ⟨b3, o3 + j * 2, none⟩ = some (.int .i64 y.key) ∧ w'.cell? ⟨b3, o3 + j * 2 + 1, none⟩ = some (.string y.val)) (first | exact HCD.out | exact ⟨(B9.out.cell hbi).trans HCD.out.1, (B9.out.cell hb3i).trans HCD.out.2.1, (B9.out.cell hb3i).trans HCD.out.2.2⟩ | fail)
            (first
              | (go_at_call 17; (with_reducible refine (big_any y.key 1099511627776 _ (by omega) (by omega)).mono ?_); rintro e w' ⟨rfl, rfl⟩)
              | (go_at_call 59; (with_reducible refine (cut_any y.val 32 32 rfl _ HVS.out).mono ?_); rintro e w' ⟨rfl, rfl⟩)
              | (go_at_call 58; (with_reducible refine (rowPut_any A7 n7 c7 tt (1 + modOf y.key 1099511627776) (y.val.extract 0 (min y.val.size 32)) wi.drew (· < wi.drew.heap.size) (fun _ h => h) SLD.out (by omega) l7 m7 (by unfold I64; omega) (by have := HRM.out.2.2; unfold maxLen; exact Nat.le_trans this (by omega))).mono ?_); rintro e w9 ⟨v9, b9, rfl, own9, bel9⟩; have O9 := Lib.hid own9; have B9 := Lib.hid bel9; clear own9 bel9)
              | fail)
          go_wp2_with fail
          go_roundw
          case rel => exact ⟨j + 1, by go_num, by omega, by omega, by rw [HY.out, ← HTT.out]; exact O9.out.mono hsi, BI.out.trans ((below_of_drew B9.out).mono hsi)⟩
          case measure => simp [intOf]; omega
        · have hend : n1 ≤ j ∨ (j < n1 ∧ j = 40) := by omega
          have HE := Lib.hid (show tt = tabR l by
            rw [HTT.out]
            rcases hend with h | ⟨_, h⟩
            · exact tabN_all (by rw [← HN1.out]; exact h) hj40
            · rw [h]; rfl)
          have O7 := Lib.hid (OwnTb.next0 OW.out BI.out)
          have SL8 := Lib.hid (show ∃ S8 : Nat → Prop, True from ⟨fun _ => True, trivial⟩)
          clear hlt2 SL8
          have OIS := OI.out.isSl (S' := fun q => S q ∨ (wo.heap.size ≤ q ∧ q < wi.heap.size)) (fun _ h => h.elim) (fun g h1 h2 => .inr ⟨h1, h2⟩)
          obtain ⟨A9, c9, hv9, _, _, sl9⟩ := OIS
          injection hv9 with e1 e2 e3
          subst e1 e3
          rw [← e2] at sl9
          have SL9 := Lib.hid sl9
          clear sl9 e2
          rcases hend with h5 | ⟨h5, rfl⟩
          case' inl => have hd5 : decide ((j : Int) < (n1 : Int)) = false := decide_eq_false (by omega)
          case' inr => have hd5 : decide ((40 : Int) < (n1 : Int)) = true := decide_eq_true (by omega)
          all_goals
            go_wp2_with (first
              | (at_builtin; refine wpList_append_Own _ rfl _ _ 22 rfl w.heap.size 81 i0 _ 24 Try.underlying22 hi hz0 hz1 hz2 rfl (R := sliceRep rowRep) (S := fun q => S q ∨ (wo.heap.size ≤ q ∧ q < wi.heap.size)) (l := acc) (l' := [tt]) u3 rfl (O7.out.alloc _) _ 1 1 rfl (Src.slice1 SL9.out l7 m7 O7.out.1) (by simp only [maxLen]; omega) (by omega) (by omega) (by simp; omega) ?_; intro v8 w8 own8 gr8 at8; have O8 := Lib.hid own8; have B8 := Lib.hid (((BE.out.trans (BI.out.mono hsz)).alloc (by omega) _).grown gr8 (by simp; omega) (fun k hk => by have := OW.out.row_ge hk; omega)); clear own8 gr8 at8)
              | fail)
            go_roundw
            case rel => exact ⟨k + 1, by go_num, by omega, by omega, by rw [HN.out, ← HE.out]; exact ⟨_, fun q hq => Or.elim hq (HS.out q) (fun hq => by omega), O8.out⟩, B8.out⟩
            case measure => simp [intOf]; omega
    · obtain ⟨A7, c7, rfl, l7, m7, sl7⟩ := hown.sl
      have hend : n ≤ k ∨ (k < n ∧ k = 8) := by omega
      have HE := Lib.hid (show acc = (T.take 8).map tabR by
        rw [HACC.out]
        rcases hend with h | ⟨_, h⟩
        · rw [List.take_of_length_le (by rw [← HL.out]; exact h), List.take_of_length_le (by rw [← HL.out]; omega)]
        · rw [h])
      by_cases h0 : k = 0
      · subst h0
        obtain rfl : n = 0 := by omega
        have HT := Lib.hid (show rightT T = [[]] from if_pos (List.eq_nil_of_length_eq_zero HL.out.symm))
        have hac : acc = [] := List.eq_nil_of_length_eq_zero hal
        subst hac
        have B1 := Lib.hid (BE.out.alloc hsz (.cells #[.slice none 0 0] 81))
        clear hlt hend
        go_wp2_with fail
        go_ret
        rw [HT.out]
        exact ⟨_, _, rfl, tabs_one rfl, Nat.le_refl _, by decide, B1.out⟩
      · have HT := Lib.hid (show rightT T = acc by unfold rightT; rw [if_neg (by intro e; have := HL.out; rw [e] at this; simp at this; omega), ← HE.out])
        have hz : ((acc.length : Int) == 0) = false := by have : acc.length ≠ 0 := (by rw [hal]; exact h0); simpa using this
        have SL7 := Lib.hid sl7
        clear hlt sl7
        rcases hend with h5 | ⟨h5, rfl⟩
        case' inl => have hd5 : decide ((k : Int) < (n : Int)) = false := decide_eq_false (by omega)
        case' inr => have hd5 : decide ((8 : Int) < (n : Int)) = true := decide_eq_true (by omega)
        all_goals
          go_wp2_with fail
          go_ret
          rw [HT.out]
          exact ⟨_, _, rfl, SL7.out, l7, m7, BE.out⟩
end Go.Proofs.Ythhpddiicnjmmaa
