/- The walk of the law WindowNews. -/
import Derived.Test.YtojjeogpggielaaWinS
import Derived.Deep.RegionLaw
set_option linter.unusedVariables false
set_option linter.unusedSimpArgs false
namespace Go.Proofs.Ytojjeogpggielaa
open Go.RowKit

def newsRows (a : Int) (p : Nat) : List Row := (List.range p).map (fun (j : Nat) => ⟨a + (j : Int) + 1, ByteArray.empty⟩)
theorem newsRows_snoc (a : Int) (p : Nat) : newsRows a (p + 1) = newsRows a p ++ [⟨a + (p : Int) + 1, ByteArray.empty⟩] := by
  unfold newsRows; rw [List.range_succ, List.map_append]; rfl
theorem newsRows_len (a : Int) (p : Nat) : (newsRows a p).length = p := by unfold newsRows; simp
theorem newsRows_get (a : Int) {p j : Nat} (h : j < p) : (newsRows a p)[j]? = some ⟨a + (j : Int) + 1, ByteArray.empty⟩ := by
  unfold newsRows; rw [List.getElem?_map, List.getElem?_range h]; rfl
theorem newsRows_last (a : Int) : ∀ p : Nat, lastKey (newsRows a p) a = a + p
  | 0 => by simp [newsRows, lastKey]
  | p + 1 => by rw [newsRows_snoc, lastKey_snoc]; dsimp only; omega
theorem newsRows_rising (a : Int) (ha : a ≤ 1000) : ∀ p : Nat, p ≤ 100 → rising a (newsRows a p) = true
  | 0, _ => rfl
  | p + 1, h => by
    rw [newsRows_snoc, rising_snoc, newsRows_rising a ha p (by omega), newsRows_last]
    rw [decide_eq_true (by dsimp only; omega)]
    rfl
theorem newsRows_take (a : Int) (p : Nat) : (newsRows a (p + 1)).take p = newsRows a p := by
  rw [newsRows_snoc, List.take_append_of_le_length (by rw [newsRows_len]; exact Nat.le_refl _), List.take_of_length_le (by rw [newsRows_len]; exact Nat.le_refl _)]

theorem WS.first {w0 w : World} {S : Nat → Prop} {g b0 o0 n : Nat} {x : Win} {l : List Row} {y : Row} (hw : WS w0 w S g x) (h : IsSl rowRep w S (some ⟨b0, o0, none⟩) n l) (hn : 0 < n) (h0 : l[0]? = some y) :
    (w.cell? ⟨b0, o0, none⟩ = some (.int .i64 y.key) ∧ w.cell? ⟨b0, o0 + 1, none⟩ = some (.string y.val)) ∧ ∀ o, (w.alloc o).cell? ⟨b0, o0, none⟩ = some (.int .i64 y.key) ∧ (w.alloc o).cell? ⟨b0, o0 + 1, none⟩ = some (.string y.val) := by
  obtain ⟨b, off, x, hA, hb, hx, -, q0, q1⟩ := h.row (k := 0) hn (fun _ _ => rfl)
  injection hA with hA
  injection hA with hA1 hA2 _
  subst hA1 hA2
  rw [h0] at hx
  injection hx with hx
  subst hx
  rw [Nat.zero_mul, Nat.add_zero] at q0 q1
  have hlt := hw.hS b0 hb
  exact ⟨⟨q0, q1⟩, fun o => ⟨(((Below.refl w.heap.size w).alloc (Nat.le_refl _) o).cell (p := ⟨b0, o0, none⟩) hlt).trans q0, (((Below.refl w.heap.size w).alloc (Nat.le_refl _) o).cell (p := ⟨b0, o0 + 1, none⟩) hlt).trans q1⟩⟩

theorem fill_no {x : Win} {l : List Row} (h : x.fillOk l = false) : x.fillOk l = false ∧ x.filled l = x := ⟨h, by unfold Win.filled; rw [h]; rfl⟩

set_option maxHeartbeats 8000000 in
set_option maxRecDepth 100000 in
theorem windowNews_walk (w : World) (n : Int) (hn : I64 n) (after : Int) (ha : I64 after) (key : Int) (hk : I64 key) :
    Calls Try.prog 4 #[.int .i64 n, .int .i64 after, .int .i64 key] w fun e w' => e = .returned (.bool true) ∧ Below w.heap.size w w' := by
  by_cases hno : n < 1 ∨ 64 < n
  · have d1 : decide (1 ≤ n) = false ∨ (decide (1 ≤ n) = true ∧ decide (n ≤ 64) = false) := by
      rcases hno with h | h
      · exact .inl (decide_eq_false (by omega))
      · by_cases h1 : 1 ≤ n
        · exact .inr ⟨decide_eq_true h1, decide_eq_false (by omega)⟩
        · exact .inl (decide_eq_false h1)
    have HNO := Lib.hid hno
    clear hno
    rcases d1 with d1 | ⟨d1, d2⟩
    all_goals
      go_enter Try.func4, Try.ntmps4
      go_wp2_with (first
        | (go_at_call 16; (with_reducible refine (winnew_no n w HNO.out).mono ?_); rintro e w1 ⟨rfl, rfl⟩)
        | (go_at_call 30; (with_reducible refine (awake26_any _).mono ?_); rintro e w2 ⟨rfl, bel2⟩)
        | fail)
      go_ret
      exact ⟨rfl, bel2⟩
  obtain ⟨m, rfl⟩ := Int.eq_ofNat_of_zero_le (show 0 ≤ n by omega)
  have hm1 : 1 ≤ m := by omega
  have hm2 : m ≤ 64 := by omega
  have e1 : decide ((1 : Int) ≤ (m : Int)) = true := decide_eq_true (by omega)
  have e2 : decide ((m : Int) ≤ 64) = true := decide_eq_true (by omega)
  have HN1 := Lib.hid (show (1 : Int) ≤ (m : Int) ∧ (m : Int) ≤ 64 by omega)
  obtain ⟨a, haa⟩ : ∃ a, a = modOf after 1000 := ⟨_, rfl⟩
  have hra := modOf_range after 1000 (by omega)
  rw [← haa] at hra
  obtain ⟨ha0, ha1⟩ := hra
  have HA := Lib.hid haa
  obtain ⟨d, hdd⟩ : ∃ d, d = modOf key 3 := ⟨_, rfl⟩
  have hrd := modOf_range key 3 (by omega)
  rw [← hdd] at hrd
  obtain ⟨hd0, hd1⟩ := hrd
  have HD := Lib.hid hdd
  obtain ⟨g, hg⟩ : ∃ g, g = w.heap.size := ⟨_, rfl⟩
  have HG := Lib.hid hg
  obtain ⟨i0, hi, hz0, hz1, hz2⟩ := info_parts info_row
  clear hno haa hdd hg hn ha hk
  go_enter Try.func4, Try.ntmps4
  go_wp2_with (first
    | (go_at_call 16; (with_reducible refine (ws_new (m : Int) w HN1.out.1 HN1.out.2).mono ?_); rintro e w1 ⟨rfl, ws1⟩; rw [← HG.out] at ws1 ⊢; have W1 := Lib.hid ws1; clear ws1)
    | (go_at_call 19; (with_reducible refine (big_any after 1000 _ (by omega) (by omega)).mono ?_); rintro e w' ⟨rfl, rfl⟩; rw [← HA.out])
    | fail)
  go_loopw [11, 12] (fun v i wr => ∃ p : Nat, i = .int .i64 p ∧ p ≤ m + 1 ∧ Own rowRep wr w1.heap.size (fun _ => False) 55 v (newsRows a p) ∧ Below w1.heap.size w1 wr) (fun _ i _ => m + 1 - (intOf i).toNat)
  case atStart => exact ⟨0, rfl, by omega, Own.nil _ _ _ (fun _ h => h.elim) _ none, Below.refl _ _⟩
  case round =>
    obtain ⟨p, rfl, hp, hown, hbel⟩ := hrel
    have OW := Lib.hid hown
    have B1 := Lib.hid hbel
    clear hown hbel
    by_cases hlt : p ≤ m
    · have hd : decide ((p : Int) ≤ (m : Int)) = true := decide_eq_true (by omega)
      have hdn : decide (p ≤ m) = true := decide_eq_true (by omega)
      have HWF := Lib.hid (show (⟨a + (p : Int) + 1, ByteArray.empty⟩ : Row).wf from ⟨⟨by dsimp only; omega, by dsimp only; omega⟩, by simp⟩)
      have hlen := newsRows_len a p
      go_wp2_with (first
        | (at_builtin; refine wpList_append_Own _ rfl _ _ 34 rfl w1.heap.size 55 i0 _ 24 Try.underlying34 hi hz0 hz1 hz2 rfl (R := rowRep) (S := fun _ => False) (l := newsRows a p) (l' := [⟨a + (p : Int) + 1, ByteArray.empty⟩]) u11 rfl (OW.out.alloc _) _ 1 1 rfl (Src.new (cs := [.int .i64 (a + (p : Int) + 1), .string ByteArray.empty]) ⟨rfl, HWF.out⟩) (by simp only [maxLen]; omega) (by omega) (by omega) (by have := B1.out.size; simp; omega) ?_; intro v4 w4 own4 gr4 at4; have OW4 := Lib.hid own4; have B4 := Lib.hid ((B1.out.alloc B1.out.size _).grown gr4 (by have := B1.out.size; simp; omega) (fun k hk => by have := OW.out.row_ge hk; omega)); clear own4 gr4 at4)
        | fail)
      go_roundw
      case rel => exact ⟨p + 1, by go_num, by omega, by rw [newsRows_snoc]; exact OW4.out, B4.out⟩
      case measure => simp [intOf]; omega
    · obtain rfl : p = m + 1 := by omega
      have hd : decide (((m + 1 : Nat) : Int) ≤ (m : Int)) = false := decide_eq_false (by omega)
      have hdn : decide (m + 1 ≤ m) = false := decide_eq_false (by omega)
      have hd3 : decide ((m : Int) + 1 ≤ (m : Int)) = false := decide_eq_false (by omega)
      obtain ⟨A, c, rfl, hcl, hcm, sl⟩ := OW.out.isSl (S' := fun k => w1.heap.size ≤ k ∧ k < wr.heap.size) (fun _ h => h.elim) (fun k h1 h2 => ⟨h1, h2⟩)
      rw [newsRows_len] at sl hcl
      have SL := Lib.hid sl
      have WR := Lib.hid (W1.out.step B1.out)
      rw [newsRows_len]
      clear hcm
      obtain ⟨b0, o0, y0, rfl, hb0, hy0, -, q0, q1⟩ := SL.out.row (k := 0) (by omega) (fun _ _ => rfl)
      rw [newsRows_get a (by omega)] at hy0
      obtain rfl := (Option.some.inj hy0).symm
      clear hy0 sl q0 q1
      obtain ⟨rk, hrk⟩ : ∃ rk, rk = a + ((0 : Nat) : Int) + 1 := ⟨_, rfl⟩
      have HRK := Lib.hid (show (newsRows a (m + 1))[0]? = some ⟨rk, ByteArray.empty⟩ by rw [newsRows_get a (by omega), hrk])
      have hrk2 : rk = a + 1 := by omega
      clear hrk
      have HO := Lib.hid (show (win0 (m : Int)).openOk 1 1 1 a = true ∧ (win0 (m : Int)).opened 1 1 1 a = ⟨1, a, 1, 1, [], 0, false, (m : Int), 1⟩ by
        have h : (win0 (m : Int)).openOk 1 1 1 a = true := decide_eq_true ⟨rfl, by omega, by omega, by omega, by omega, by omega, by omega, by omega, by omega⟩
        exact ⟨h, if_pos h⟩)
      have F1 := Lib.hid (fill_no (x := ⟨1, a, 1, 1, [], 0, false, (m : Int), 1⟩) (l := newsRows a (m + 1)) (by unfold Win.fillOk; rw [newsRows_len, decide_eq_false (by dsimp only; omega)]; rfl))
      have F2 := Lib.hid (fill_no (x := ⟨1, a, 1, 1, [], 0, false, (m : Int), 1⟩) (l := [⟨a - d, ⟨#[]⟩⟩]) (by unfold Win.fillOk; rw [show rising a [⟨a - d, ⟨#[]⟩⟩] = false by rw [rising, decide_eq_false (by dsimp only; omega)]; rfl]; exact Bool.and_false _))
      have F3 := Lib.hid (fill_no (x := ⟨1, a, 1, 1, [], 0, false, (m : Int), 1⟩) (l := [⟨1099511627777, ⟨#[]⟩⟩]) (by unfold Win.fillOk; rw [show rising a [⟨1099511627777, ⟨#[]⟩⟩] = false by rw [rising, decide_eq_false (by dsimp only; omega)]; rfl]; exact Bool.and_false _))
      have F4 := Lib.hid (fill_no (x := ⟨1, a, 1, 1, [], 0, false, (m : Int), 1⟩) (l := [⟨rk, ByteArray.empty⟩, ⟨rk, ByteArray.empty⟩]) (by unfold Win.fillOk; rw [show rising a [⟨rk, ByteArray.empty⟩, ⟨rk, ByteArray.empty⟩] = false by rw [rising, rising, decide_eq_false (p := (_ : Int) < _ ∧ _) (show ¬ (rk < rk ∧ rk ≤ 1099511627776) by omega), Bool.false_and, Bool.and_false]]; exact Bool.and_false _))
      have F5 := Lib.hid (show (⟨1, a, 1, 1, [], 0, false, (m : Int), 1⟩ : Win).fillOk (newsRows a m) = true ∧ (⟨1, a, 1, 1, [], 0, false, (m : Int), 1⟩ : Win).filled (newsRows a m) = ⟨1, a, 1, 1, newsRows a m, lastKey (newsRows a m) a, decide (((newsRows a m).length : Int) < (m : Int)), (m : Int), 2⟩ by
        have h : (⟨1, a, 1, 1, [], 0, false, (m : Int), 1⟩ : Win).fillOk (newsRows a m) = true := by
          unfold Win.fillOk
          rw [newsRows_len, decide_eq_true ⟨rfl, Int.le_refl _⟩]
          exact newsRows_rising a (by omega) m (by omega)
        exact ⟨h, if_pos h⟩)
      have HL1 : ∀ (k : Int) (w0 : World), I64 k → IsSl rowRep (w0.alloc (.cells #[.int .i64 k, .string ⟨#[]⟩] 55)) (fun i => w0.heap.size ≤ i ∧ i < (w0.alloc (.cells #[.int .i64 k, .string ⟨#[]⟩] 55)).heap.size) (some ⟨w0.heap.size, 0, none⟩) 1 [⟨k, ⟨#[]⟩⟩] := fun k w0 hk => IsSl.newFlat (enc := Row.cells) [⟨k, ⟨#[]⟩⟩] (by intro x hx; simp at hx; subst hx; exact ⟨hk, Nat.zero_le _⟩) rfl rfl ⟨Nat.le_refl _, by simp⟩
      have HL2 : ∀ (k : Int) (w0 : World), I64 k → IsSl rowRep (w0.alloc (.cells #[.int .i64 k, .string ByteArray.empty, .int .i64 k, .string ByteArray.empty] 55)) (fun i => w0.heap.size ≤ i ∧ i < (w0.alloc (.cells #[.int .i64 k, .string ByteArray.empty, .int .i64 k, .string ByteArray.empty] 55)).heap.size) (some ⟨w0.heap.size, 0, none⟩) 2 [⟨k, ByteArray.empty⟩, ⟨k, ByteArray.empty⟩] := fun k w0 hk => IsSl.newFlat (enc := Row.cells) [⟨k, ByteArray.empty⟩, ⟨k, ByteArray.empty⟩] (by intro x hx; simp at hx; subst hx; exact ⟨hk, Nat.zero_le _⟩) rfl rfl ⟨Nat.le_refl _, by simp⟩
      have HLA := Lib.hid HL1
      have HLB := Lib.hid HL2
      have HI1 := Lib.hid (show I64 (a - d) ∧ I64 1099511627777 ∧ I64 rk from ⟨⟨by omega, by omega⟩, ⟨by decide, by decide⟩, ⟨by omega, by omega⟩⟩)
      clear HL1 HL2
      obtain ⟨S, hSe⟩ : ∃ S : Nat → Prop, S = (fun k => k < g ∨ (w1.heap.size ≤ k ∧ k < wr.heap.size)) := ⟨_, rfl⟩
      have WSR := Lib.hid (show WS w wr S g (win0 (m : Int)) by rw [hSe]; exact WR.out)
      have SLS := Lib.hid (show IsSl rowRep wr S (some ⟨b0, o0, none⟩) (m + 1) (newsRows a (m + 1)) by rw [hSe]; exact SL.out.weak (fun k hk => .inr hk))
      have HSB := Lib.hid (show S b0 by rw [hSe]; exact .inr hb0)
      have hmx : m + 1 ≤ maxLen := by simp only [maxLen]; omega
      have hmy : m ≤ maxLen := by simp only [maxLen]; omega
      have hmc : (m : Int) ≤ (c : Int) := by omega
      have hmc0 : (0 : Int) ≤ (m : Int) := by omega
      have h0m : (0 : Int) < ((m + 1 : Nat) : Int) := by omega
      have h0m2 : (0 : Int) < (m : Int) + 1 := by omega
      clear hb0 hSe hrk2
      have WSD := Lib.hid WSR.out.drew
      have SLD := Lib.hid (show IsSl rowRep wr.drew S (some ⟨b0, o0, none⟩) (m + 1) (newsRows a (m + 1)) from SLS.out.keep fun _ _ => rfl)
      have qd := (WSD.out.first SLD.out (by omega) HRK.out).1
      by_cases h2 : m < 2
      · have dl : decide ((m : Int) < 2) = true := decide_eq_true (by omega)
        have dln : decide (m < 2) = true := decide_eq_true h2
        go_wp2_with (first
          | (go_at_call 19; (with_reducible refine (big_any key 3 _ (by omega) (by omega)).mono ?_); rintro e w' ⟨rfl, rfl⟩; rw [← HD.out])
          | fail)
        dsimp only [List.append]
        refine wp_region_held_drew (S := fun _ => True) (by kernel_rfl) (trivial) (fun hHeld => ?_)
        refine wpAnyH_ready (rs := [0]) (by kernel_rfl) (by simp) ?_
        refine AllReadyH.cons rfl (fun K hK => ?_) AllReadyH.nil
        go_simp
        go_at_call 30; (with_reducible refine (awake26_any _).mono ?_); rintro e w2 ⟨rfl, bel2⟩; have W2 := Lib.hid (WSD.out.below bel2); have SL2 := Lib.hid (SLD.out.call (WSD.out.rest bel2)); obtain ⟨q2, k2⟩ := W2.out.first SL2.out (by omega) HRK.out; clear bel2
        refine hK.out _ _ (trivial) (fun hHeld2 => ?_)
        clear hK K hHeld; have hHeld := hHeld2; clear hHeld2; (try simp only [Act.put, List.setIfInBounds_toArray, List.set_cons_zero, List.set_cons_succ])
        (refine wpAnyH_take (i := 1) (v := ?_) rfl (by kernel_rfl) (by kernel_rfl) (by kernel_rfl) (fun _ _ _ h => h) (Or.inl ⟨by rfl, ?_⟩) hHeld ?_; rotate_left 1; focus (intro w hSw; (try dsimp only at hSw); go_simp; try with_reducible rfl)); (try simp only [Act.put, List.setIfInBounds_toArray, List.set_cons_zero, List.set_cons_succ])
        (refine wpAnyH_take (i := 2) (v := ?_) rfl (by kernel_rfl) (by kernel_rfl) (by kernel_rfl) (fun _ _ _ h => h) (Or.inl ⟨by rfl, ?_⟩) hHeld ?_; rotate_left 1; focus (intro w hSw; (try dsimp only at hSw); go_simp; try with_reducible rfl)); (try simp only [Act.put, List.setIfInBounds_toArray, List.set_cons_zero, List.set_cons_succ])
        (refine wpAnyH_take (i := 3) (v := ?_) rfl (by kernel_rfl) (by kernel_rfl) (by kernel_rfl) (fun _ _ _ h => h) (Or.inl ⟨by rfl, ?_⟩) hHeld ?_; rotate_left 1; focus (intro w hSw; (try dsimp only at hSw); go_simp; try with_reducible rfl)); (try simp only [Act.put, List.setIfInBounds_toArray, List.set_cons_zero, List.set_cons_succ])
        refine wpAnyH_ready (rs := [4]) (by kernel_rfl) (by simp) ?_
        refine AllReadyH.cons rfl (fun K hK => ?_) AllReadyH.nil
        go_simp
        go_at_call 21; (with_reducible refine (ws_open W2.out 1 1 1 a).mono ?_); rintro e w3 ⟨rfl, ws3, r3⟩; rw [HO.out.1]; rw [HO.out.2] at ws3; have W3 := Lib.hid ws3; have SL3 := Lib.hid (SL2.out.call r3); obtain ⟨q3, k3⟩ := W3.out.first SL3.out (by omega) HRK.out; clear ws3 r3
        refine hK.out _ _ (trivial) (fun hHeld2 => ?_)
        clear hK K hHeld; have hHeld := hHeld2; clear hHeld2; (try simp only [Act.put, List.setIfInBounds_toArray, List.set_cons_zero, List.set_cons_succ])
        (refine wpAnyH_take (i := 5) (v := ?_) rfl (by kernel_rfl) (by kernel_rfl) (by kernel_rfl) (fun _ _ _ h => h) (Or.inl ⟨by rfl, ?_⟩) hHeld ?_; rotate_left 1; focus (intro w hSw; (try dsimp only at hSw); go_simp; try with_reducible rfl)); (try simp only [Act.put, List.setIfInBounds_toArray, List.set_cons_zero, List.set_cons_succ])
        (refine wpAnyH_take (i := 6) (v := ?_) rfl (by kernel_rfl) (by kernel_rfl) (by kernel_rfl) (fun _ _ _ h => h) (Or.inl ⟨by rfl, ?_⟩) hHeld ?_; rotate_left 1; focus (intro w hSw; (try dsimp only at hSw); go_simp; try with_reducible rfl)); (try simp only [Act.put, List.setIfInBounds_toArray, List.set_cons_zero, List.set_cons_succ])
        (refine wpAnyH_take (i := 7) (v := ?_) rfl (by kernel_rfl) (by kernel_rfl) (by kernel_rfl) (fun _ _ _ h => h) (Or.inl ⟨by rfl, ?_⟩) hHeld ?_; rotate_left 1; focus (intro w hSw; (try dsimp only at hSw); go_simp; try with_reducible rfl)); (try simp only [Act.put, List.setIfInBounds_toArray, List.set_cons_zero, List.set_cons_succ])
        (refine wpAnyH_take (i := 8) (v := ?_) rfl (by kernel_rfl) (by kernel_rfl) (by kernel_rfl) (fun _ _ _ h => h) (Or.inl ⟨by rfl, ?_⟩) hHeld ?_; rotate_left 1; focus (intro w hSw; (try dsimp only at hSw); go_simp; try with_reducible rfl)); (try simp only [Act.put, List.setIfInBounds_toArray, List.set_cons_zero, List.set_cons_succ])
        refine wpAnyH_ready (rs := [9]) (by kernel_rfl) (by simp) ?_
        refine AllReadyH.cons rfl (fun K hK => ?_) AllReadyH.nil
        go_simp
        go_at_call 24; (with_reducible refine (ws_fill W3.out (some ⟨b0, o0, none⟩) (m + 1) c (newsRows a (m + 1)) SL3.out HN1.out.2 hmx).mono ?_); rintro e w4 ⟨rfl, ws4, r4⟩; rw [F1.out.1]; rw [F1.out.2] at ws4; have W4 := Lib.hid ws4; have SL4 := Lib.hid (SL3.out.call r4); obtain ⟨q4, k4⟩ := W4.out.first SL4.out (by omega) HRK.out; clear ws4 r4
        refine hK.out _ _ (trivial) (fun hHeld2 => ?_)
        clear hK K hHeld; have hHeld := hHeld2; clear hHeld2; (try simp only [Act.put, List.setIfInBounds_toArray, List.set_cons_zero, List.set_cons_succ])
        (refine wpAnyH_take (i := 10) (v := ?_) rfl (by kernel_rfl) (by kernel_rfl) (by kernel_rfl) (fun _ _ _ h => h) (Or.inl ⟨by rfl, ?_⟩) hHeld ?_; rotate_left 1; focus (intro w hSw; (try dsimp only at hSw); go_simp; try with_reducible rfl)); (try simp only [Act.put, List.setIfInBounds_toArray, List.set_cons_zero, List.set_cons_succ])
        (refine wpAnyH_take (i := 11) (v := ?_) rfl (by kernel_rfl) (by kernel_rfl) (by kernel_rfl) (fun _ _ _ h => h) (Or.inl ⟨by rfl, ?_⟩) hHeld ?_; rotate_left 1; focus (intro w hSw; (try dsimp only at hSw); go_simp; try with_reducible rfl)); (try simp only [Act.put, List.setIfInBounds_toArray, List.set_cons_zero, List.set_cons_succ])
        (refine wpAnyH_take (i := 12) (v := ?_) rfl (by kernel_rfl) (by kernel_rfl) (by kernel_rfl) (fun _ _ _ h => h) (Or.inl ⟨by rfl, ?_⟩) hHeld ?_; rotate_left 1; focus (intro w hSw; (try dsimp only at hSw); go_simp; try with_reducible rfl)); (try simp only [Act.put, List.setIfInBounds_toArray, List.set_cons_zero, List.set_cons_succ])
        (refine wpAnyH_take (i := 13) (v := ?_) rfl (by kernel_rfl) (by kernel_rfl) (by kernel_rfl) (fun _ _ _ h => h) (Or.inl ⟨by rfl, ?_⟩) hHeld ?_; rotate_left 1; focus (intro w hSw; (try dsimp only at hSw); go_simp; try with_reducible rfl)); (try simp only [Act.put, List.setIfInBounds_toArray, List.set_cons_zero, List.set_cons_succ])
        (refine wpAnyH_take (i := 14) (v := ?_) rfl (by kernel_rfl) (by kernel_rfl) (by kernel_rfl) (fun _ _ _ h => h) (Or.inl ⟨by rfl, ?_⟩) hHeld ?_; rotate_left 1; focus (intro w hSw; (try dsimp only at hSw); go_simp; try with_reducible rfl)); (try simp only [Act.put, List.setIfInBounds_toArray, List.set_cons_zero, List.set_cons_succ])
        (refine wpAnyH_take (i := 15) (v := ?_) rfl (by kernel_rfl) (by kernel_rfl) (by kernel_rfl) (fun _ _ _ h => h) (Or.inl ⟨by rfl, ?_⟩) hHeld ?_; rotate_left 1; focus (intro w hSw; (try dsimp only at hSw); go_simp; try with_reducible rfl)); (try simp only [Act.put, List.setIfInBounds_toArray, List.set_cons_zero, List.set_cons_succ])
        refine wpAnyH_ready (rs := [16]) (by kernel_rfl) (by simp) ?_
        refine AllReadyH.cons rfl (fun K hK => ?_) AllReadyH.nil
        go_simp
        refine hK.out _ _ (trivial) (fun hHeld2 => ?_)
        clear hK K hHeld; have hHeld := hHeld2; clear hHeld2; (try simp only [Act.put, List.setIfInBounds_toArray, List.set_cons_zero, List.set_cons_succ])
        refine wpAnyH_ready (rs := [17]) (by kernel_rfl) (by simp) ?_
        refine AllReadyH.cons rfl (fun K hK => ?_) AllReadyH.nil
        go_simp
        go_at_call 24; (with_reducible refine (ws_fill_new W4.out ((Below.refl _ _).alloc (Nat.le_refl _) _) _ 1 1 [⟨a - d, ⟨#[]⟩⟩] (HLA.out (a - d) w4 HI1.out.1) HN1.out.2 (by decide)).mono ?_); rintro e w5 ⟨rfl, ws5, r5⟩; rw [F2.out.1]; rw [F2.out.2] at ws5; have W5 := Lib.hid ws5; have SL5 := Lib.hid (SL4.out.call r5); obtain ⟨q5, k5⟩ := W5.out.first SL5.out (by omega) HRK.out; clear ws5 r5
        refine hK.out _ _ (trivial) (fun hHeld2 => ?_)
        clear hK K hHeld; have hHeld := hHeld2; clear hHeld2; (try simp only [Act.put, List.setIfInBounds_toArray, List.set_cons_zero, List.set_cons_succ])
        (refine wpAnyH_take (i := 18) (v := ?_) rfl (by kernel_rfl) (by kernel_rfl) (by kernel_rfl) (fun _ _ _ h => h) (Or.inl ⟨by rfl, ?_⟩) hHeld ?_; rotate_left 1; focus (intro w hSw; (try dsimp only at hSw); go_simp; try with_reducible rfl)); (try simp only [Act.put, List.setIfInBounds_toArray, List.set_cons_zero, List.set_cons_succ])
        (refine wpAnyH_take (i := 19) (v := ?_) rfl (by kernel_rfl) (by kernel_rfl) (by kernel_rfl) (fun _ _ _ h => h) (Or.inl ⟨by rfl, ?_⟩) hHeld ?_; rotate_left 1; focus (intro w hSw; (try dsimp only at hSw); go_simp; try with_reducible rfl)); (try simp only [Act.put, List.setIfInBounds_toArray, List.set_cons_zero, List.set_cons_succ])
        (refine wpAnyH_take (i := 20) (v := ?_) rfl (by kernel_rfl) (by kernel_rfl) (by kernel_rfl) (fun _ _ _ h => h) (Or.inl ⟨by rfl, ?_⟩) hHeld ?_; rotate_left 1; focus (intro w hSw; (try dsimp only at hSw); go_simp; try with_reducible rfl)); (try simp only [Act.put, List.setIfInBounds_toArray, List.set_cons_zero, List.set_cons_succ])
        (refine wpAnyH_take (i := 21) (v := ?_) rfl (by kernel_rfl) (by kernel_rfl) (by kernel_rfl) (fun _ _ _ h => h) (Or.inl ⟨by rfl, ?_⟩) hHeld ?_; rotate_left 1; focus (intro w hSw; (try dsimp only at hSw); go_simp; try with_reducible rfl)); (try simp only [Act.put, List.setIfInBounds_toArray, List.set_cons_zero, List.set_cons_succ])
        (refine wpAnyH_take (i := 22) (v := ?_) rfl (by kernel_rfl) (by kernel_rfl) (by kernel_rfl) (fun _ _ _ h => h) (Or.inl ⟨by rfl, ?_⟩) hHeld ?_; rotate_left 1; focus (intro w hSw; (try dsimp only at hSw); go_simp; try with_reducible rfl)); (try simp only [Act.put, List.setIfInBounds_toArray, List.set_cons_zero, List.set_cons_succ])
        refine wpAnyH_ready (rs := [23]) (by kernel_rfl) (by simp) ?_
        refine AllReadyH.cons rfl (fun K hK => ?_) AllReadyH.nil
        go_simp
        refine hK.out _ _ (trivial) (fun hHeld2 => ?_)
        clear hK K hHeld; have hHeld := hHeld2; clear hHeld2; (try simp only [Act.put, List.setIfInBounds_toArray, List.set_cons_zero, List.set_cons_succ])
        refine wpAnyH_ready (rs := [24]) (by kernel_rfl) (by simp) ?_
        refine AllReadyH.cons rfl (fun K hK => ?_) AllReadyH.nil
        go_simp
        go_at_call 24; (with_reducible refine (ws_fill_new W5.out ((Below.refl _ _).alloc (Nat.le_refl _) _) _ 1 1 [⟨1099511627777, ⟨#[]⟩⟩] (HLA.out 1099511627777 w5 HI1.out.2.1) HN1.out.2 (by decide)).mono ?_); rintro e w6 ⟨rfl, ws6, r6⟩; rw [F3.out.1]; rw [F3.out.2] at ws6; have W6 := Lib.hid ws6; have SL6 := Lib.hid (SL5.out.call r6); obtain ⟨q6, k6⟩ := W6.out.first SL6.out (by omega) HRK.out; clear ws6 r6
        refine hK.out _ _ (trivial) (fun hHeld2 => ?_)
        clear hK K hHeld; have hHeld := hHeld2; clear hHeld2; (try simp only [Act.put, List.setIfInBounds_toArray, List.set_cons_zero, List.set_cons_succ])
        (refine wpAnyH_take (i := 25) (v := ?_) rfl (by kernel_rfl) (by kernel_rfl) (by kernel_rfl) (fun _ _ _ h => h) (Or.inl ⟨by rfl, ?_⟩) hHeld ?_; rotate_left 1; focus (intro w hSw; (try dsimp only at hSw); go_simp; try with_reducible rfl)); (try simp only [Act.put, List.setIfInBounds_toArray, List.set_cons_zero, List.set_cons_succ])
        (refine wpAnyH_take (i := 26) (v := ?_) rfl (by kernel_rfl) (by kernel_rfl) (by kernel_rfl) (fun _ _ _ h => h) (Or.inl ⟨by rfl, ?_⟩) hHeld ?_; rotate_left 1; focus (intro w hSw; (try dsimp only at hSw); go_simp; try with_reducible rfl)); (try simp only [Act.put, List.setIfInBounds_toArray, List.set_cons_zero, List.set_cons_succ])
        (refine wpAnyH_take (i := 27) (v := ?_) rfl (by kernel_rfl) (by kernel_rfl) (by kernel_rfl) (fun _ _ _ h => h) (Or.inl ⟨by rfl, ?_⟩) hHeld ?_; rotate_left 1; focus (intro w hSw; (try dsimp only at hSw); go_simp; try with_reducible rfl)); (try simp only [Act.put, List.setIfInBounds_toArray, List.set_cons_zero, List.set_cons_succ])
        (refine wpAnyH_take (i := 28) (v := ?_) rfl (by kernel_rfl) (by kernel_rfl) (by kernel_rfl) (fun _ _ _ h => h) (Or.inl ⟨by rfl, ?_⟩) hHeld ?_; rotate_left 1; focus (intro w hSw; (try dsimp only at hSw); go_simp; try with_reducible rfl)); (try simp only [Act.put, List.setIfInBounds_toArray, List.set_cons_zero, List.set_cons_succ])
        (refine wpAnyH_take (i := 29) (v := ?_) rfl (by kernel_rfl) (by kernel_rfl) (by kernel_rfl) (fun _ _ _ h => h) (Or.inl ⟨by rfl, ?_⟩) hHeld ?_; rotate_left 1; focus (intro w hSw; (try dsimp only at hSw); go_simp; try with_reducible rfl)); (try simp only [Act.put, List.setIfInBounds_toArray, List.set_cons_zero, List.set_cons_succ])
        (refine wpAnyH_take (i := 30) (v := ?_) rfl (by kernel_rfl) (by kernel_rfl) (by kernel_rfl) (fun _ _ _ h => h) (Or.inl ⟨by rfl, ?_⟩) hHeld ?_; rotate_left 1; focus (intro w hSw; (try dsimp only at hSw); go_simp; try with_reducible rfl)); (try simp only [Act.put, List.setIfInBounds_toArray, List.set_cons_zero, List.set_cons_succ])
        (refine wpAnyH_take (i := 31) (v := undef) rfl (by kernel_rfl) (by kernel_rfl) (by kernel_rfl) (fun _ _ _ h => h) (Or.inr ⟨by rfl, rfl⟩) hHeld ?_); (try simp only [Act.put, List.getElem_toArray, List.getElem_cons_zero, List.getElem_cons_succ, List.setIfInBounds_toArray, List.set_cons_zero, List.set_cons_succ])
        (refine wpAnyH_take (i := 32) (v := undef) rfl (by kernel_rfl) (by kernel_rfl) (by kernel_rfl) (fun _ _ _ h => h) (Or.inr ⟨by rfl, rfl⟩) hHeld ?_); (try simp only [Act.put, List.getElem_toArray, List.getElem_cons_zero, List.getElem_cons_succ, List.setIfInBounds_toArray, List.set_cons_zero, List.set_cons_succ])
        (refine wpAnyH_take (i := 33) (v := undef) rfl (by kernel_rfl) (by kernel_rfl) (by kernel_rfl) (fun _ _ _ h => h) (Or.inr ⟨by rfl, rfl⟩) hHeld ?_); (try simp only [Act.put, List.getElem_toArray, List.getElem_cons_zero, List.getElem_cons_succ, List.setIfInBounds_toArray, List.set_cons_zero, List.set_cons_succ])
        (refine wpAnyH_take (i := 34) (v := undef) rfl (by kernel_rfl) (by kernel_rfl) (by kernel_rfl) (fun _ _ _ h => h) (Or.inr ⟨by rfl, rfl⟩) hHeld ?_); (try simp only [Act.put, List.getElem_toArray, List.getElem_cons_zero, List.getElem_cons_succ, List.setIfInBounds_toArray, List.set_cons_zero, List.set_cons_succ])
        (refine wpAnyH_take (i := 35) (v := undef) rfl (by kernel_rfl) (by kernel_rfl) (by kernel_rfl) (fun _ _ _ h => h) (Or.inr ⟨by rfl, rfl⟩) hHeld ?_); (try simp only [Act.put, List.getElem_toArray, List.getElem_cons_zero, List.getElem_cons_succ, List.setIfInBounds_toArray, List.set_cons_zero, List.set_cons_succ])
        (refine wpAnyH_take (i := 36) (v := undef) rfl (by kernel_rfl) (by kernel_rfl) (by kernel_rfl) (fun _ _ _ h => h) (Or.inr ⟨by rfl, rfl⟩) hHeld ?_); (try simp only [Act.put, List.getElem_toArray, List.getElem_cons_zero, List.getElem_cons_succ, List.setIfInBounds_toArray, List.set_cons_zero, List.set_cons_succ])
        (refine wpAnyH_take (i := 37) (v := undef) rfl (by kernel_rfl) (by kernel_rfl) (by kernel_rfl) (fun _ _ _ h => h) (Or.inr ⟨by rfl, rfl⟩) hHeld ?_); (try simp only [Act.put, List.getElem_toArray, List.getElem_cons_zero, List.getElem_cons_succ, List.setIfInBounds_toArray, List.set_cons_zero, List.set_cons_succ])
        (refine wpAnyH_take (i := 38) (v := undef) rfl (by kernel_rfl) (by kernel_rfl) (by kernel_rfl) (fun _ _ _ h => h) (Or.inr ⟨by rfl, rfl⟩) hHeld ?_); (try simp only [Act.put, List.getElem_toArray, List.getElem_cons_zero, List.getElem_cons_succ, List.setIfInBounds_toArray, List.set_cons_zero, List.set_cons_succ])
        (refine wpAnyH_take (i := 39) (v := undef) rfl (by kernel_rfl) (by kernel_rfl) (by kernel_rfl) (fun _ _ _ h => h) (Or.inr ⟨by rfl, rfl⟩) hHeld ?_); (try simp only [Act.put, List.getElem_toArray, List.getElem_cons_zero, List.getElem_cons_succ, List.setIfInBounds_toArray, List.set_cons_zero, List.set_cons_succ])
        (refine wpAnyH_take (i := 40) (v := undef) rfl (by kernel_rfl) (by kernel_rfl) (by kernel_rfl) (fun _ _ _ h => h) (Or.inr ⟨by rfl, rfl⟩) hHeld ?_); (try simp only [Act.put, List.getElem_toArray, List.getElem_cons_zero, List.getElem_cons_succ, List.setIfInBounds_toArray, List.set_cons_zero, List.set_cons_succ])
        (refine wpAnyH_take (i := 41) (v := ?_) rfl (by kernel_rfl) (by kernel_rfl) (by kernel_rfl) (fun _ _ _ h => h) (Or.inl ⟨by rfl, ?_⟩) hHeld ?_; rotate_left 1; focus (intro w hSw; (try dsimp only at hSw); go_simp; try with_reducible rfl)); (try simp only [Act.put, List.setIfInBounds_toArray, List.set_cons_zero, List.set_cons_succ])
        (refine wpAnyH_take (i := 42) (v := ?_) rfl (by kernel_rfl) (by kernel_rfl) (by kernel_rfl) (fun _ _ _ h => h) (Or.inl ⟨by rfl, ?_⟩) hHeld ?_; rotate_left 1; focus (intro w hSw; (try dsimp only at hSw); go_simp; try with_reducible rfl)); (try simp only [Act.put, List.setIfInBounds_toArray, List.set_cons_zero, List.set_cons_succ])
        (refine wpAnyH_take (i := 43) (v := ?_) rfl (by kernel_rfl) (by kernel_rfl) (by kernel_rfl) (fun _ _ _ h => h) (Or.inl ⟨by rfl, ?_⟩) hHeld ?_; rotate_left 1; focus (intro w hSw; (try dsimp only at hSw); go_simp; try with_reducible rfl)); (try simp only [Act.put, List.setIfInBounds_toArray, List.set_cons_zero, List.set_cons_succ])
        (refine wpAnyH_take (i := 44) (v := ?_) rfl (by kernel_rfl) (by kernel_rfl) (by kernel_rfl) (fun _ _ _ h => h) (Or.inl ⟨by rfl, ?_⟩) hHeld ?_; rotate_left 1; focus (intro w hSw; (try dsimp only at hSw); go_simp; try with_reducible rfl)); (try simp only [Act.put, List.setIfInBounds_toArray, List.set_cons_zero, List.set_cons_succ])
        refine wpAnyH_ready (rs := [45]) (by kernel_rfl) (by simp) ?_
        refine AllReadyH.cons rfl (fun K hK => ?_) AllReadyH.nil
        go_simp
        go_at_call 31; (with_reducible refine (ws_state W6.out).mono ?_); rintro e w' ⟨rfl, rfl⟩
        refine hK.out _ _ (trivial) (fun hHeld2 => ?_)
        clear hK K hHeld; have hHeld := hHeld2; clear hHeld2; (try simp only [Act.put, List.setIfInBounds_toArray, List.set_cons_zero, List.set_cons_succ])
        (refine wpAnyH_take (i := 46) (v := ?_) rfl (by kernel_rfl) (by kernel_rfl) (by kernel_rfl) (fun _ _ _ h => h) (Or.inl ⟨by rfl, ?_⟩) hHeld ?_; rotate_left 1; focus (intro w hSw; (try dsimp only at hSw); go_simp; try with_reducible rfl)); (try simp only [Act.put, List.setIfInBounds_toArray, List.set_cons_zero, List.set_cons_succ])
        (refine wpAnyH_take (i := 47) (v := ?_) rfl (by kernel_rfl) (by kernel_rfl) (by kernel_rfl) (fun _ _ _ h => h) (Or.inl ⟨by rfl, ?_⟩) hHeld ?_; rotate_left 1; focus (intro w hSw; (try dsimp only at hSw); go_simp; try with_reducible rfl)); (try simp only [Act.put, List.setIfInBounds_toArray, List.set_cons_zero, List.set_cons_succ])
        (refine wpAnyH_take (i := 48) (v := ?_) rfl (by kernel_rfl) (by kernel_rfl) (by kernel_rfl) (fun _ _ _ h => h) (Or.inl ⟨by rfl, ?_⟩) hHeld ?_; rotate_left 1; focus (intro w hSw; (try dsimp only at hSw); go_simp; try with_reducible rfl)); (try simp only [Act.put, List.setIfInBounds_toArray, List.set_cons_zero, List.set_cons_succ])
        (refine wpAnyH_take (i := 49) (v := ?_) rfl (by kernel_rfl) (by kernel_rfl) (by kernel_rfl) (fun _ _ _ h => h) (Or.inl ⟨by rfl, ?_⟩) hHeld ?_; rotate_left 1; focus (intro w hSw; (try dsimp only at hSw); go_simp; try with_reducible rfl)); (try simp only [Act.put, List.setIfInBounds_toArray, List.set_cons_zero, List.set_cons_succ])
        (refine wpAnyH_take (i := 50) (v := ?_) rfl (by kernel_rfl) (by kernel_rfl) (by kernel_rfl) (fun _ _ _ h => h) (Or.inl ⟨by rfl, ?_⟩) hHeld ?_; rotate_left 1; focus (intro w hSw; (try dsimp only at hSw); go_simp; try with_reducible rfl)); (try simp only [Act.put, List.setIfInBounds_toArray, List.set_cons_zero, List.set_cons_succ])
        (refine wpAnyH_take (i := 51) (v := ?_) rfl (by kernel_rfl) (by kernel_rfl) (by kernel_rfl) (fun _ _ _ h => h) (Or.inl ⟨by rfl, ?_⟩) hHeld ?_; rotate_left 1; focus (intro w hSw; (try dsimp only at hSw); go_simp; try with_reducible rfl)); (try simp only [Act.put, List.setIfInBounds_toArray, List.set_cons_zero, List.set_cons_succ])
        (refine wpAnyH_take (i := 52) (v := ?_) rfl (by kernel_rfl) (by kernel_rfl) (by kernel_rfl) (fun _ _ _ h => h) (Or.inl ⟨by rfl, ?_⟩) hHeld ?_; rotate_left 1; focus (intro w hSw; (try dsimp only at hSw); go_simp; try with_reducible rfl)); (try simp only [Act.put, List.setIfInBounds_toArray, List.set_cons_zero, List.set_cons_succ])
        refine wpAnyH_ready (rs := [53]) (by kernel_rfl) (by simp) ?_
        refine AllReadyH.cons rfl (fun K hK => ?_) AllReadyH.nil
        go_simp
        go_at_call 24; (with_reducible refine (ws_fill W6.out (some ⟨b0, o0, none⟩) m c (newsRows a m) (by have h := SL6.out.cutTo (hi := m) (by omega); rw [newsRows_take] at h; exact h) HN1.out.2 hmy).mono ?_); rintro e w8 ⟨rfl, ws8, r8⟩; rw [F5.out.1]; rw [F5.out.2] at ws8; have W8 := Lib.hid ws8; have SL8 := Lib.hid (SL6.out.call r8); obtain ⟨q8, k8⟩ := W8.out.first SL8.out (by omega) HRK.out; clear ws8 r8
        refine hK.out _ _ (trivial) (fun hHeld2 => ?_)
        clear hK K hHeld; have hHeld := hHeld2; clear hHeld2; (try simp only [Act.put, List.setIfInBounds_toArray, List.set_cons_zero, List.set_cons_succ])
        (refine wpAnyH_take (i := 54) (v := ?_) rfl (by kernel_rfl) (by kernel_rfl) (by kernel_rfl) (fun _ _ _ h => h) (Or.inl ⟨by rfl, ?_⟩) hHeld ?_; rotate_left 1; focus (intro w hSw; (try dsimp only at hSw); go_simp; try with_reducible rfl)); (try simp only [Act.put, List.setIfInBounds_toArray, List.set_cons_zero, List.set_cons_succ])
        (refine wpAnyH_take (i := 55) (v := ?_) rfl (by kernel_rfl) (by kernel_rfl) (by kernel_rfl) (fun _ _ _ h => h) (Or.inl ⟨by rfl, ?_⟩) hHeld ?_; rotate_left 1; focus (intro w hSw; (try dsimp only at hSw); go_simp; try with_reducible rfl)); (try simp only [Act.put, List.setIfInBounds_toArray, List.set_cons_zero, List.set_cons_succ])
        (refine wpAnyH_take (i := 56) (v := ?_) rfl (by kernel_rfl) (by kernel_rfl) (by kernel_rfl) (fun _ _ _ h => h) (Or.inl ⟨by rfl, ?_⟩) hHeld ?_; rotate_left 1; focus (intro w hSw; (try dsimp only at hSw); go_simp; try with_reducible rfl)); (try simp only [Act.put, List.setIfInBounds_toArray, List.set_cons_zero, List.set_cons_succ])
        (refine wpAnyH_take (i := 59) (v := ?_) rfl (by kernel_rfl) (by kernel_rfl) (by kernel_rfl) (fun _ _ _ h => h) (Or.inl ⟨by rfl, ?_⟩) hHeld ?_; rotate_left 1; focus (intro w hSw; (try dsimp only at hSw); go_simp; try with_reducible rfl)); (try simp only [Act.put, List.setIfInBounds_toArray, List.set_cons_zero, List.set_cons_succ])
        refine wpAnyH_ready (rs := [57]) (by kernel_rfl) (by simp) ?_
        refine AllReadyH.cons rfl (fun K hK => ?_) AllReadyH.nil
        go_simp
        go_at_call 32; (with_reducible refine (ws_rows W8.out (by dsimp only; rw [newsRows_len]; omega)).mono ?_); rintro e w9 ⟨A9, c9, rfl, ws9, r9, -⟩; rw [newsRows_len]; have W9 := Lib.hid ws9; have SL9 := Lib.hid (SL8.out.call r9); obtain ⟨q9, k9⟩ := W9.out.first SL9.out (by omega) HRK.out; clear ws9 r9
        refine hK.out _ _ (trivial) (fun hHeld2 => ?_)
        clear hK K hHeld; have hHeld := hHeld2; clear hHeld2; (try simp only [Act.put, List.setIfInBounds_toArray, List.set_cons_zero, List.set_cons_succ])
        (refine wpAnyH_take (i := 58) (v := ?_) rfl (by kernel_rfl) (by kernel_rfl) (by kernel_rfl) (fun _ _ _ h => h) (Or.inl ⟨by rfl, ?_⟩) hHeld ?_; rotate_left 1; focus (intro w hSw; (try dsimp only at hSw); go_simp; try with_reducible rfl)); (try simp only [Act.put, List.setIfInBounds_toArray, List.set_cons_zero, List.set_cons_succ])
        (refine wpAnyH_take (i := 60) (v := ?_) rfl (by kernel_rfl) (by kernel_rfl) (by kernel_rfl) (fun _ _ _ h => h) (Or.inl ⟨by rfl, ?_⟩) hHeld ?_; rotate_left 1; focus (intro w hSw; (try dsimp only at hSw); go_simp; try with_reducible rfl)); (try simp only [Act.put, List.setIfInBounds_toArray, List.set_cons_zero, List.set_cons_succ])
        (refine wpAnyH_take (i := 61) (v := ?_) rfl (by kernel_rfl) (by kernel_rfl) (by kernel_rfl) (fun _ _ _ h => h) (Or.inl ⟨by rfl, ?_⟩) hHeld ?_; rotate_left 1; focus (intro w hSw; (try dsimp only at hSw); go_simp; try with_reducible rfl)); (try simp only [Act.put, List.setIfInBounds_toArray, List.set_cons_zero, List.set_cons_succ])
        (refine wpAnyH_take (i := 62) (v := ?_) rfl (by kernel_rfl) (by kernel_rfl) (by kernel_rfl) (fun _ _ _ h => h) (Or.inl ⟨by rfl, ?_⟩) hHeld ?_; rotate_left 1; focus (intro w hSw; (try dsimp only at hSw); go_simp; try with_reducible rfl)); (try simp only [Act.put, List.setIfInBounds_toArray, List.set_cons_zero, List.set_cons_succ])
        (refine wpAnyH_take (i := 63) (v := ?_) rfl (by kernel_rfl) (by kernel_rfl) (by kernel_rfl) (fun _ _ _ h => h) (Or.inl ⟨by rfl, ?_⟩) hHeld ?_; rotate_left 1; focus (intro w hSw; (try dsimp only at hSw); go_simp; try with_reducible rfl)); (try simp only [Act.put, List.setIfInBounds_toArray, List.set_cons_zero, List.set_cons_succ])
        refine wpAnyH_ready (rs := [64]) (by kernel_rfl) (by simp) ?_
        refine AllReadyH.cons rfl (fun K hK => ?_) AllReadyH.nil
        go_simp
        go_at_call 31; (with_reducible refine (ws_state W9.out).mono ?_); rintro e w' ⟨rfl, rfl⟩
        refine hK.out _ _ (trivial) (fun hHeld2 => ?_)
        clear hK K hHeld; have hHeld := hHeld2; clear hHeld2; (try simp only [Act.put, List.setIfInBounds_toArray, List.set_cons_zero, List.set_cons_succ])
        (refine wpAnyH_take (i := 65) (v := ?_) rfl (by kernel_rfl) (by kernel_rfl) (by kernel_rfl) (fun _ _ _ h => h) (Or.inl ⟨by rfl, ?_⟩) hHeld ?_; rotate_left 1; focus (intro w hSw; (try dsimp only at hSw); go_simp; try with_reducible rfl)); (try simp only [Act.put, List.setIfInBounds_toArray, List.set_cons_zero, List.set_cons_succ])
        (refine wpAnyH_take (i := 66) (v := ?_) rfl (by kernel_rfl) (by kernel_rfl) (by kernel_rfl) (fun _ _ _ h => h) (Or.inl ⟨by rfl, ?_⟩) hHeld ?_; rotate_left 1; focus (intro w hSw; (try dsimp only at hSw); go_simp; try with_reducible rfl)); (try simp only [Act.put, List.setIfInBounds_toArray, List.set_cons_zero, List.set_cons_succ])
        (refine wpAnyH_take (i := 67) (v := ?_) rfl (by kernel_rfl) (by kernel_rfl) (by kernel_rfl) (fun _ _ _ h => h) (Or.inl ⟨by rfl, ?_⟩) hHeld ?_; rotate_left 1; focus (intro w hSw; (try dsimp only at hSw); go_simp; try with_reducible rfl)); (try simp only [Act.put, List.setIfInBounds_toArray, List.set_cons_zero, List.set_cons_succ])
        refine wpAnyH_done (by kernel_rfl) ?_ _
        go_wp2_with fail
        go_ret
        exact ⟨rfl, W9.out.bel⟩
      · have dl : decide ((m : Int) < 2) = false := decide_eq_false (by omega)
        have dln : decide (m < 2) = false := decide_eq_false h2
        go_wp2_with (first
          | (go_at_call 19; (with_reducible refine (big_any key 3 _ (by omega) (by omega)).mono ?_); rintro e w' ⟨rfl, rfl⟩; rw [← HD.out])
          | fail)
        dsimp only [List.append]
        go_region_held3 (fun w' => w'.cell? ⟨b0, o0, none⟩ = some (.int .i64 rk) ∧ w'.cell? ⟨b0, o0 + 1, none⟩ = some (.string ByteArray.empty)) (first | exact qd | exact q2 | exact q3 | exact q4 | exact k4 _ | exact q5 | exact k5 _ | exact q6 | exact k6 _ | exact q7 | exact q8 | exact q9 | fail)
          (first
          | (go_at_call 30; (with_reducible refine (awake26_any _).mono ?_); rintro e w2 ⟨rfl, bel2⟩; have W2 := Lib.hid (WSD.out.below bel2); have SL2 := Lib.hid (SLD.out.call (WSD.out.rest bel2)); obtain ⟨q2, k2⟩ := W2.out.first SL2.out (by omega) HRK.out; clear bel2)
          | (go_at_call 21; (with_reducible refine (ws_open W2.out 1 1 1 a).mono ?_); rintro e w3 ⟨rfl, ws3, r3⟩; rw [HO.out.1]; rw [HO.out.2] at ws3; have W3 := Lib.hid ws3; have SL3 := Lib.hid (SL2.out.call r3); obtain ⟨q3, k3⟩ := W3.out.first SL3.out (by omega) HRK.out; clear ws3 r3)
          | (go_at_call 24; (with_reducible refine (ws_fill W3.out (some ⟨b0, o0, none⟩) (m + 1) c (newsRows a (m + 1)) SL3.out HN1.out.2 hmx).mono ?_); rintro e w4 ⟨rfl, ws4, r4⟩; rw [F1.out.1]; rw [F1.out.2] at ws4; have W4 := Lib.hid ws4; have SL4 := Lib.hid (SL3.out.call r4); obtain ⟨q4, k4⟩ := W4.out.first SL4.out (by omega) HRK.out; clear ws4 r4)
          | (go_at_call 24; (with_reducible refine (ws_fill_new W4.out ((Below.refl _ _).alloc (Nat.le_refl _) _) _ 1 1 [⟨a - d, ⟨#[]⟩⟩] (HLA.out (a - d) w4 HI1.out.1) HN1.out.2 (by decide)).mono ?_); rintro e w5 ⟨rfl, ws5, r5⟩; rw [F2.out.1]; rw [F2.out.2] at ws5; have W5 := Lib.hid ws5; have SL5 := Lib.hid (SL4.out.call r5); obtain ⟨q5, k5⟩ := W5.out.first SL5.out (by omega) HRK.out; clear ws5 r5)
          | (go_at_call 24; (with_reducible refine (ws_fill_new W5.out ((Below.refl _ _).alloc (Nat.le_refl _) _) _ 1 1 [⟨1099511627777, ⟨#[]⟩⟩] (HLA.out 1099511627777 w5 HI1.out.2.1) HN1.out.2 (by decide)).mono ?_); rintro e w6 ⟨rfl, ws6, r6⟩; rw [F3.out.1]; rw [F3.out.2] at ws6; have W6 := Lib.hid ws6; have SL6 := Lib.hid (SL5.out.call r6); obtain ⟨q6, k6⟩ := W6.out.first SL6.out (by omega) HRK.out; clear ws6 r6)
          | (go_at_call 24; (with_reducible refine (ws_fill_new W6.out ((Below.refl _ _).alloc (Nat.le_refl _) _) _ 2 2 [⟨rk, ByteArray.empty⟩, ⟨rk, ByteArray.empty⟩] (HLB.out rk w6 HI1.out.2.2) HN1.out.2 (by decide)).mono ?_); rintro e w7 ⟨rfl, ws7, r7⟩; rw [F4.out.1]; rw [F4.out.2] at ws7; have W7 := Lib.hid ws7; have SL7 := Lib.hid (SL6.out.call r7); obtain ⟨q7, k7⟩ := W7.out.first SL7.out (by omega) HRK.out; clear ws7 r7)
          | (go_at_call 31; (with_reducible refine (ws_state W7.out).mono ?_); rintro e w' ⟨rfl, rfl⟩)
          | (go_at_call 24; (with_reducible refine (ws_fill W7.out (some ⟨b0, o0, none⟩) m c (newsRows a m) (by have h := SL7.out.cutTo (hi := m) (by omega); rw [newsRows_take] at h; exact h) HN1.out.2 hmy).mono ?_); rintro e w8 ⟨rfl, ws8, r8⟩; rw [F5.out.1]; rw [F5.out.2] at ws8; have W8 := Lib.hid ws8; have SL8 := Lib.hid (SL7.out.call r8); obtain ⟨q8, k8⟩ := W8.out.first SL8.out (by omega) HRK.out; clear ws8 r8)
          | (go_at_call 32; (with_reducible refine (ws_rows W8.out (by dsimp only; rw [newsRows_len]; omega)).mono ?_); rintro e w9 ⟨A9, c9, rfl, ws9, r9, -⟩; rw [newsRows_len]; have W9 := Lib.hid ws9; have SL9 := Lib.hid (SL8.out.call r9); obtain ⟨q9, k9⟩ := W9.out.first SL9.out (by omega) HRK.out; clear ws9 r9)
          | (go_at_call 31; (with_reducible refine (ws_state W9.out).mono ?_); rintro e w' ⟨rfl, rfl⟩)
          | fail)
        go_wp2_with fail
        go_ret
        exact ⟨rfl, W9.out.bel⟩
end Go.Proofs.Ytojjeogpggielaa
