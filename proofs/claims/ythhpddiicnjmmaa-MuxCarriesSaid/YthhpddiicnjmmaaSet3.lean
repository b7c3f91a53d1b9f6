/- Contract of the reference's rows (qanatref07): Del. -/
import Derived.Test.YthhpddiicnjmmaaSetA
set_option linter.unusedVariables false
set_option linter.unusedSimpArgs false
set_option maxRecDepth 100000
namespace Go.Proofs.Ythhpddiicnjmmaa
open Go.RowKit

def DelPost (w : World) (U : Nat → Prop) (l' : List Row) (e : Ending) (w' : World) : Prop := ∃ A m c b, e = .returned (.tuple #[.slice A m c, .bool b]) ∧ IsSl rowRep w' (fun k => U k ∨ (w.heap.size ≤ k ∧ k < w'.heap.size)) A m l' ∧ m ≤ c ∧ c ≤ maxLen ∧ Below w.heap.size w w'

set_option maxHeartbeats 8000000 in
set_option maxRecDepth 100000 in
theorem refdel_any (A : Option Addr) (n c : Nat) (l : List Row) (key : Int) (w : World) (U : Nat → Prop) (hU : ∀ k, U k → k < w.heap.size) (h : IsSl rowRep w U A n l) (hm : n ≤ 100000) (hc : n ≤ c) (hcm : c ≤ maxLen) :
    Calls Try.prog 138 #[.slice A n c, .int .i64 key] w (DelPost w U (delL l key)) := by
  obtain ⟨i0, hi, hz0, hz1, hz2⟩ := info_parts info_row
  have HCM := Lib.hid hcm
  unfold maxLen at hcm
  have H := Lib.hid h
  have HN := Lib.hid h.len
  have HU := Lib.hid hU
  obtain ⟨W0, hW0⟩ : ∃ W0, W0 = w.drew.alloc (.cells #[] 80) := ⟨_, rfl⟩
  have B0 := Lib.hid (show Below w.heap.size w W0 by rw [hW0]; exact (below_drewN (Below.refl _ _) 1).alloc (Nat.le_refl _) _)
  have HW0 := Lib.hid hW0
  clear h hU hW0
  go_enter Try.func138, Try.ntmps138
  go_wp2
  go_loop [6] (fun i => ∃ p : Nat, i = .int .i64 p ∧ p ≤ n ∧ ∀ r ∈ l.take p, ¬ r.key = key) (fun i => n - (intOf i).toNat)
  case atStart => exact ⟨0, rfl, Nat.zero_le _, by simp⟩
  case round =>
    obtain ⟨p, rfl, hp, hall⟩ := hrel
    have HALL := Lib.hid hall
    clear hall
    have hpc : (p : Int) ≤ (c : Int) := by omega
    have hp0 : (0 : Int) ≤ (p : Int) := by omega
    by_cases hlt : p < n
    · have hd : decide ((p : Int) < (n : Int)) = true := decide_eq_true (by omega)
      have hpi : (p : Int) < (n : Int) := by omega
      obtain ⟨b0, off, x, rfl, hb, hx, hwf, k0, k1⟩ := H.out.row hlt (fun q hq => rfl)
      have HX := Lib.hid hx
      obtain ⟨xk, xv⟩ := x
      dsimp only at k0 k1
      clear hx
      by_cases e : xk = key
      · have d1 : (xk == key) = true := by simpa using e
        have HD := Lib.hid (delL_at l key p ⟨xk, xv⟩ HX.out e HALL.out)
        have SRC1 := Lib.hid (show Src rowRep W0 (fun _ => False) (some ⟨b0, off, none⟩) p (l.take p) from ((H.out.cutTo hp)).srcK flat_row (fun q hq => B0.out.cell (HU.out _ hq)))
        have hpc1 : (p : Int) + 1 ≤ (n : Int) := by omega
        have hpc2 : (p : Int) ≤ (p : Int) + 1 := by omega
        have hnc : (n : Int) ≤ (c : Int) := by omega
        have hw1 : IntKind.i64.wrap ((p : Int) + 1) = (p : Int) + 1 := IntWalk.i64_in _ (by omega)
        have hw10 : (0 : Int) ≤ (p : Int) + 1 := by omega
        have hw1n : ((p : Int) + 1).toNat = p + 1 := by omega
        clear e
        by_cases hcp : c = p + 1
        · subst hcp
          obtain rfl : n = p + 1 := by omega
          go_wp2_with fail
          refine wp_region_held_drew (S := fun _ => True) (by kernel_rfl) (trivial) (fun hHeld => ?_)
          (refine wpAnyH_take (i := 1) (v := ?_) rfl (by kernel_rfl) (by kernel_rfl) (by kernel_rfl) (fun _ _ _ h => h) (Or.inl ⟨by rfl, ?_⟩) hHeld ?_; rotate_left 1; focus (intro w hSw; (try dsimp only at hSw); go_simp; try with_reducible rfl)); (try simp only [Act.put, List.setIfInBounds_toArray, List.set_cons_zero, List.set_cons_succ])
          (refine wpAnyH_take (i := 2) (v := ?_) rfl (by kernel_rfl) (by kernel_rfl) (by kernel_rfl) (fun _ _ _ h => h) (Or.inl ⟨by rfl, ?_⟩) hHeld ?_; rotate_left 1; focus (intro w hSw; (try dsimp only at hSw); go_simp; try with_reducible rfl)); (try simp only [Act.put, List.setIfInBounds_toArray, List.set_cons_zero, List.set_cons_succ])
          (refine wpAnyH_take (i := 5) (v := ?_) rfl (by kernel_rfl) (by kernel_rfl) (by kernel_rfl) (fun _ _ _ h => h) (Or.inl ⟨by rfl, ?_⟩) hHeld ?_; rotate_left 1; focus (intro w hSw; (try dsimp only at hSw); go_simp; try with_reducible rfl)); (try simp only [Act.put, List.setIfInBounds_toArray, List.set_cons_zero, List.set_cons_succ])
          (refine wpAnyH_take (i := 6) (v := ?_) rfl (by kernel_rfl) (by kernel_rfl) (by kernel_rfl) (fun _ _ _ h => h) (Or.inl ⟨by rfl, ?_⟩) hHeld ?_; rotate_left 1; focus (intro w hSw; (try dsimp only at hSw); go_simp; try with_reducible rfl)); (try simp only [Act.put, List.setIfInBounds_toArray, List.set_cons_zero, List.set_cons_succ])
          (refine wpAnyH_take (i := 7) (v := ?_) rfl (by kernel_rfl) (by kernel_rfl) (by kernel_rfl) (fun _ _ _ h => h) (Or.inl ⟨by rfl, ?_⟩) hHeld ?_; rotate_left 1; focus (intro w hSw; (try dsimp only at hSw); go_simp; try with_reducible rfl)); (try simp only [Act.put, List.setIfInBounds_toArray, List.set_cons_zero, List.set_cons_succ])
          (refine wpAnyH_take (i := 8) (v := ?_) rfl (by kernel_rfl) (by kernel_rfl) (by kernel_rfl) (fun _ _ _ h => h) (Or.inl ⟨by rfl, ?_⟩) hHeld ?_; rotate_left 1; focus (intro w hSw; (try dsimp only at hSw); go_simp; try with_reducible rfl)); (try simp only [Act.put, List.setIfInBounds_toArray, List.set_cons_zero, List.set_cons_succ])
          (refine wpAnyH_take (i := 3) (v := ?_) rfl (by kernel_rfl) (by kernel_rfl) (by kernel_rfl) (fun _ _ _ h => h) (Or.inl ⟨by rfl, ?_⟩) hHeld ?_; rotate_left 1; focus (intro w hSw; (try dsimp only at hSw); go_simp; try with_reducible rfl)); (try simp only [Act.put, List.setIfInBounds_toArray, List.set_cons_zero, List.set_cons_succ])
          refine wpAnyH_ready (rs := [0]) (by kernel_rfl) (by simp) ?_
          refine AllReadyH.cons rfl (fun K hK => ?_) AllReadyH.nil
          go_simp
          refine hK.out _ _ (trivial) (fun hHeld2 => ?_)
          clear hK K hHeld; have hHeld := hHeld2; clear hHeld2; (try simp only [Act.put, List.setIfInBounds_toArray, List.set_cons_zero, List.set_cons_succ])
          refine wpAnyH_ready (rs := [4]) (by kernel_rfl) (by simp) ?_
          refine AllReadyH.cons rfl (fun K hK => ?_) AllReadyH.nil
          refine step_append_Own (w := w.drew.alloc (.cells #[] 80)) rfl (.tmp 20) (.tmp 23) 81 rfl w.heap.size 80 i0 _ 24 Try.underlying81 hi hz0 hz1 hz2 rfl (R := rowRep) (S := fun _ => False) (l := []) (l' := l.take p) (.slice (some ⟨w.heap.size, 0, none⟩) 0 0) rfl (Own.nil _ _ _ (fun _ h => h.elim) _ _) (some ⟨b0, off, none⟩) p (p + 1) rfl (by rw [← HW0.out]; exact SRC1.out) (by simp [maxLen]; omega) (by simp; omega) (by omega) (by rw [← HW0.out]; exact B0.out.size) ?_
          intro v1 w1 own1 gr1 at1
          rw [← HW0.out] at gr1
          have bel1 := B0.out.grown gr1 B0.out.size (by intro k hk; simp [rowOf] at hk)
          simp only [List.nil_append] at own1
          obtain ⟨A1, c1, rfl, _, _, _⟩ := own1.isSlB
          obtain ⟨q1, hq1⟩ : ∃ q1, q1 = (l.take p).length := ⟨_, rfl⟩
          rw [← hq1] at own1 ⊢
          have HQ1 := Lib.hid hq1
          have OW1 := Lib.hid own1
          have B1 := Lib.hid bel1
          clear gr1 at1 own1 bel1 hq1
          refine hK.out _ _ (trivial) (fun hHeld2 => ?_)
          clear hK K hHeld; have hHeld := hHeld2; clear hHeld2; (try simp only [Act.put, List.setIfInBounds_toArray, List.set_cons_zero, List.set_cons_succ])
          refine wpAnyH_ready (rs := [9]) (by kernel_rfl) (by simp) ?_
          refine AllReadyH.cons rfl (fun K hK => ?_) AllReadyH.nil
          refine step_append_Own (w := w1) rfl (.tmp 24) (.tmp 28) 81 rfl w.heap.size 80 i0 _ 24 Try.underlying81 hi hz0 hz1 hz2 rfl (R := rowRep) (S := fun _ => False) (l := l.take p) (l' := l.drop (p + 1)) (.slice A1 q1 c1) rfl OW1.out _ _ _ rfl (by rw [List.drop_eq_nil_of_le (by rw [← HN.out]; exact Nat.le_refl _)]; exact Src.nil) (by rw [List.length_take]; simp only [maxLen]; omega) (by rw [List.length_take]; omega) (by omega) B1.out.size ?_
          intro v2 w2 own2 gr2 at2
          obtain ⟨Av, cv, rfl, hlc, hcm2, sl⟩ := own2.isSl (S' := fun k => U k ∨ (w.heap.size ≤ k ∧ k < w2.heap.size)) (fun _ h => h.elim) (fun k h1 h2 => .inr ⟨h1, h2⟩)
          obtain ⟨q2, hq2⟩ : ∃ q2, q2 = (l.take p ++ l.drop (p + 1)).length := ⟨_, rfl⟩
          rw [← hq2] at sl hlc ⊢
          have SL2 := Lib.hid sl
          have HLC := Lib.hid (And.intro hlc hcm2)
          have B2 := Lib.hid (B1.out.grown gr2 B1.out.size (fun k hk => OW1.out.row_ge hk))
          clear gr2 at2 own2 hq2 sl hlc hcm2
          refine hK.out _ _ (trivial) (fun hHeld2 => ?_)
          clear hK K hHeld; have hHeld := hHeld2; clear hHeld2; (try simp only [Act.put, List.setIfInBounds_toArray, List.set_cons_zero, List.set_cons_succ])
          (refine wpAnyH_take (i := 10) (v := ?_) rfl (by kernel_rfl) (by kernel_rfl) (by kernel_rfl) (fun _ _ _ h => h) (Or.inl ⟨by rfl, ?_⟩) hHeld ?_; rotate_left 1; focus (intro w hSw; (try dsimp only at hSw); go_simp; try with_reducible rfl)); (try simp only [Act.put, List.getElem_toArray, List.getElem_cons_zero, List.getElem_cons_succ, List.setIfInBounds_toArray, List.set_cons_zero, List.set_cons_succ])
          (refine wpAnyH_take (i := 11) (v := ?_) rfl (by kernel_rfl) (by kernel_rfl) (by kernel_rfl) (fun _ _ _ h => h) (Or.inl ⟨by rfl, ?_⟩) hHeld ?_; rotate_left 1; focus (intro w hSw; (try dsimp only at hSw); go_simp; try with_reducible rfl)); (try simp only [Act.put, List.getElem_toArray, List.getElem_cons_zero, List.getElem_cons_succ, List.setIfInBounds_toArray, List.set_cons_zero, List.set_cons_succ])
          refine wpAnyH_done (by kernel_rfl) ?_ _
          go_wp2_with fail
          go_ret2
          rw [HD.out]
          exact ⟨Av, q2, cv, true, rfl, SL2.out, HLC.out.1, HLC.out.2, B2.out⟩
        · go_wp2_with fail
          refine wp_region_held_drew (S := fun _ => True) (by kernel_rfl) (trivial) (fun hHeld => ?_)
          (refine wpAnyH_take (i := 1) (v := ?_) rfl (by kernel_rfl) (by kernel_rfl) (by kernel_rfl) (fun _ _ _ h => h) (Or.inl ⟨by rfl, ?_⟩) hHeld ?_; rotate_left 1; focus (intro w hSw; (try dsimp only at hSw); go_simp; try with_reducible rfl)); (try simp only [Act.put, List.setIfInBounds_toArray, List.set_cons_zero, List.set_cons_succ])
          (refine wpAnyH_take (i := 2) (v := ?_) rfl (by kernel_rfl) (by kernel_rfl) (by kernel_rfl) (fun _ _ _ h => h) (Or.inl ⟨by rfl, ?_⟩) hHeld ?_; rotate_left 1; focus (intro w hSw; (try dsimp only at hSw); go_simp; try with_reducible rfl)); (try simp only [Act.put, List.setIfInBounds_toArray, List.set_cons_zero, List.set_cons_succ])
          (refine wpAnyH_take (i := 5) (v := ?_) rfl (by kernel_rfl) (by kernel_rfl) (by kernel_rfl) (fun _ _ _ h => h) (Or.inl ⟨by rfl, ?_⟩) hHeld ?_; rotate_left 1; focus (intro w hSw; (try dsimp only at hSw); go_simp; try with_reducible rfl)); (try simp only [Act.put, List.setIfInBounds_toArray, List.set_cons_zero, List.set_cons_succ])
          (refine wpAnyH_take (i := 6) (v := ?_) rfl (by kernel_rfl) (by kernel_rfl) (by kernel_rfl) (fun _ _ _ h => h) (Or.inl ⟨by rfl, ?_⟩) hHeld ?_; rotate_left 1; focus (intro w hSw; (try dsimp only at hSw); go_simp; try with_reducible rfl)); (try simp only [Act.put, List.setIfInBounds_toArray, List.set_cons_zero, List.set_cons_succ])
          (refine wpAnyH_take (i := 7) (v := ?_) rfl (by kernel_rfl) (by kernel_rfl) (by kernel_rfl) (fun _ _ _ h => h) (Or.inl ⟨by rfl, ?_⟩) hHeld ?_; rotate_left 1; focus (intro w hSw; (try dsimp only at hSw); go_simp; try with_reducible rfl)); (try simp only [Act.put, List.setIfInBounds_toArray, List.set_cons_zero, List.set_cons_succ])
          (refine wpAnyH_take (i := 8) (v := ?_) rfl (by kernel_rfl) (by kernel_rfl) (by kernel_rfl) (fun _ _ _ h => h) (Or.inl ⟨by rfl, ?_⟩) hHeld ?_; rotate_left 1; focus (intro w hSw; (try dsimp only at hSw); go_simp; try with_reducible rfl)); (try simp only [Act.put, List.setIfInBounds_toArray, List.set_cons_zero, List.set_cons_succ])
          (refine wpAnyH_take (i := 3) (v := ?_) rfl (by kernel_rfl) (by kernel_rfl) (by kernel_rfl) (fun _ _ _ h => h) (Or.inl ⟨by rfl, ?_⟩) hHeld ?_; rotate_left 1; focus (intro w hSw; (try dsimp only at hSw); go_simp; try with_reducible rfl)); (try simp only [Act.put, List.setIfInBounds_toArray, List.set_cons_zero, List.set_cons_succ])
          refine wpAnyH_ready (rs := [0]) (by kernel_rfl) (by simp) ?_
          refine AllReadyH.cons rfl (fun K hK => ?_) AllReadyH.nil
          go_simp
          refine hK.out _ _ (trivial) (fun hHeld2 => ?_)
          clear hK K hHeld; have hHeld := hHeld2; clear hHeld2; (try simp only [Act.put, List.setIfInBounds_toArray, List.set_cons_zero, List.set_cons_succ])
          refine wpAnyH_ready (rs := [4]) (by kernel_rfl) (by simp) ?_
          refine AllReadyH.cons rfl (fun K hK => ?_) AllReadyH.nil
          refine step_append_Own (w := w.drew.alloc (.cells #[] 80)) rfl (.tmp 20) (.tmp 23) 81 rfl w.heap.size 80 i0 _ 24 Try.underlying81 hi hz0 hz1 hz2 rfl (R := rowRep) (S := fun _ => False) (l := []) (l' := l.take p) (.slice (some ⟨w.heap.size, 0, none⟩) 0 0) rfl (Own.nil _ _ _ (fun _ h => h.elim) _ _) (some ⟨b0, off, none⟩) p c rfl (by rw [← HW0.out]; exact SRC1.out) (by simp [maxLen]; omega) (by simp; omega) (by omega) (by rw [← HW0.out]; exact B0.out.size) ?_
          intro v1 w1 own1 gr1 at1
          rw [← HW0.out] at gr1
          have bel1 := B0.out.grown gr1 B0.out.size (by intro k hk; simp [rowOf] at hk)
          simp only [List.nil_append] at own1
          obtain ⟨A1, c1, rfl, _, _, _⟩ := own1.isSlB
          obtain ⟨q1, hq1⟩ : ∃ q1, q1 = (l.take p).length := ⟨_, rfl⟩
          rw [← hq1] at own1 ⊢
          have HQ1 := Lib.hid hq1
          have OW1 := Lib.hid own1
          have B1 := Lib.hid bel1
          clear gr1 at1 own1 bel1 hq1
          refine hK.out _ _ (trivial) (fun hHeld2 => ?_)
          clear hK K hHeld; have hHeld := hHeld2; clear hHeld2; (try simp only [Act.put, List.setIfInBounds_toArray, List.set_cons_zero, List.set_cons_succ])
          refine wpAnyH_ready (rs := [9]) (by kernel_rfl) (by simp) ?_
          refine AllReadyH.cons rfl (fun K hK => ?_) AllReadyH.nil
          refine step_append_Own (w := w1) rfl (.tmp 24) (.tmp 28) 81 rfl w.heap.size 80 i0 _ 24 Try.underlying81 hi hz0 hz1 hz2 rfl (R := rowRep) (S := fun _ => False) (l := l.take p) (l' := l.drop (p + 1)) (.slice A1 q1 c1) rfl OW1.out _ _ _ rfl (((H.out.from_ (lo := p + 1) (by omega) (A' := _) (fun _ b o h => by injection h with h; injection h with h1 h2 h3; subst h1 h2; rfl)).srcK flat_row (fun q hq => B1.out.cell (HU.out _ hq)))) (by rw [List.length_take]; simp only [maxLen]; omega) (by rw [List.length_take]; omega) (by omega) B1.out.size ?_
          intro v2 w2 own2 gr2 at2
          obtain ⟨Av, cv, rfl, hlc, hcm2, sl⟩ := own2.isSl (S' := fun k => U k ∨ (w.heap.size ≤ k ∧ k < w2.heap.size)) (fun _ h => h.elim) (fun k h1 h2 => .inr ⟨h1, h2⟩)
          obtain ⟨q2, hq2⟩ : ∃ q2, q2 = (l.take p ++ l.drop (p + 1)).length := ⟨_, rfl⟩
          rw [← hq2] at sl hlc ⊢
          have SL2 := Lib.hid sl
          have HLC := Lib.hid (And.intro hlc hcm2)
          have B2 := Lib.hid (B1.out.grown gr2 B1.out.size (fun k hk => OW1.out.row_ge hk))
          clear gr2 at2 own2 hq2 sl hlc hcm2
          refine hK.out _ _ (trivial) (fun hHeld2 => ?_)
          clear hK K hHeld; have hHeld := hHeld2; clear hHeld2; (try simp only [Act.put, List.setIfInBounds_toArray, List.set_cons_zero, List.set_cons_succ])
          (refine wpAnyH_take (i := 10) (v := ?_) rfl (by kernel_rfl) (by kernel_rfl) (by kernel_rfl) (fun _ _ _ h => h) (Or.inl ⟨by rfl, ?_⟩) hHeld ?_; rotate_left 1; focus (intro w hSw; (try dsimp only at hSw); go_simp; try with_reducible rfl)); (try simp only [Act.put, List.getElem_toArray, List.getElem_cons_zero, List.getElem_cons_succ, List.setIfInBounds_toArray, List.set_cons_zero, List.set_cons_succ])
          (refine wpAnyH_take (i := 11) (v := ?_) rfl (by kernel_rfl) (by kernel_rfl) (by kernel_rfl) (fun _ _ _ h => h) (Or.inl ⟨by rfl, ?_⟩) hHeld ?_; rotate_left 1; focus (intro w hSw; (try dsimp only at hSw); go_simp; try with_reducible rfl)); (try simp only [Act.put, List.getElem_toArray, List.getElem_cons_zero, List.getElem_cons_succ, List.setIfInBounds_toArray, List.set_cons_zero, List.set_cons_succ])
          refine wpAnyH_done (by kernel_rfl) ?_ _
          go_wp2_with fail
          go_ret2
          rw [HD.out]
          exact ⟨Av, q2, cv, true, rfl, SL2.out, HLC.out.1, HLC.out.2, B2.out⟩
      · have d1 : (xk == key) = false := by simpa using e
        have HS := Lib.hid (show ∀ r ∈ l.take (p + 1), ¬ r.key = key by
          rw [take_snoc HX.out]
          intro r hr
          rcases List.mem_append.1 hr with hr | hr
          · exact HALL.out r hr
          · obtain rfl : r = ⟨xk, xv⟩ := by simpa using hr
            exact e)
        clear e
        go_wp2
        go_round
        case rel => exact ⟨p + 1, by go_num, by omega, HS.out⟩
        case measure => simp [intOf]; omega
    · obtain rfl : n = p := by omega
      have hd : decide ((n : Int) < (n : Int)) = false := by simp
      have HD := Lib.hid (delL_none l key (by have := HALL.out; rw [List.take_of_length_le (by rw [← HN.out]; exact Nat.le_refl _)] at this; exact this))
      go_wp2
      go_ret2
      rw [HD.out]
      exact ⟨_, _, _, _, rfl, H.out.weak (fun k hk => .inl hk), hc, HCM.out, Below.refl _ _⟩
end Go.Proofs.Ythhpddiicnjmmaa
