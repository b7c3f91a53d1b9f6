/- Contracts: seg.Head, ref04.Head. -/
import Derived.Test.YtcohheoahdbgmaaSegL
import Derived.Test.YtcohheoahdbgmaaRec4
import Derived.Test.YtcohheoahdbgmaaFld6
set_option linter.unusedVariables false
set_option maxRecDepth 100000
set_option linter.unusedSimpArgs false
namespace Go.Proofs.Ytcohheoahdbgmaa
open Go.RowKit

theorem no_bytes : (⟨#[]⟩ : ByteArray) = ByteArray.empty := rfl
theorem one_num {w : World} {f : Int} (hf : I64 f) (t : TypeId) {s : ByteArray} (hs : s = ByteArray.empty) : IsSl fldRep (w.alloc (.cells #[.int .i64 1, .int .i64 f, .string s] t)) (· < (w.alloc (.cells #[.int .i64 1, .int .i64 f, .string s] t)).heap.size) (some ⟨w.heap.size, 0, none⟩) 1 [numF f] := by
  subst hs
  exact ⟨rfl, _, Rows.single (R := fldRep) (cs := (numF f).cells) ⟨rfl, numF_wf1 hf _ (List.mem_singleton.mpr rfl)⟩, fun _ => ⟨w.heap.size, 0, rfl, by simp, fun j u hu => by rw [Nat.zero_add, World.cell?_alloc_at _ _ _ _ rfl]; simpa [numF, Fld.cells] using hu⟩⟩

set_option maxHeartbeats 4000000 in
theorem segHead_any (f : Int) (hf : I64 f) (w : World) :
    Calls Try.prog 30 #[.int .i64 f] w fun e w' => ∃ v, e = .returned (.tuple #[v, .int .i64 (headE f)]) ∧ Own byteRep w' w.heap.size (fun _ => False) 5 v (headV f) ∧ Below w.heap.size w w' := by
  by_cases h : 1 ≤ f ∧ f ≤ 1099511627776
  · have HY := Lib.hid (headV_yes h)
    have HE := Lib.hid (head_enc hf)
    have HF := Lib.hid hf
    have HB := Lib.hid (show (headB8 f) = encV [numF f] from rfl)
    have HP := Lib.hid (putV_of (p := headB8 f) (by rw [HE.out.2.1]; omega))
    obtain ⟨h1, h2⟩ := h
    have d1 : decide (f < 1) = false := decide_eq_false (by omega)
    have d2 : decide (1099511627776 < f) = false := decide_eq_false (by omega)
    clear hf
    go_enter Try.func30, Try.ntmps30
    go_wp2_with (first
      | (go_at_call 43; (with_reducible refine (encode_any _ 1 1 [numF f] _ (one_num (w := w) HF.out 71 no_bytes) (by omega)).mono ?_); rintro e w1 ⟨v1, rfl, own1, bel1⟩; rw [HE.out.1]; rw [← HB.out] at own1; obtain ⟨A1, c1, rfl, hl1, hc1, sl1⟩ := own1.isSlB; rw [HE.out.2.1] at hl1 sl1 ⊢; have SL1 := Lib.hid sl1; have B1 := Lib.hid (((Below.refl w.heap.size w).alloc (Nat.le_refl _) (.cells #[.int .i64 1, .int .i64 f, .string ⟨#[]⟩] 71)).trans (bel1.mono (by simp))); clear own1 sl1 bel1)
      | (go_at_call 68; (with_reducible refine (put_any A1 11 c1 (headB8 f) _ SL1.out hl1 hc1).mono ?_); rintro e w2 ⟨v2, rfl, own2, bel2⟩; rw [HP.out.2]; rw [HP.out.1, ← HY.out.2.1] at own2; have OW := Lib.hid (own2.mono B1.out.size); have B2 := Lib.hid (B1.out.trans (bel2.mono B1.out.size)); clear own2 bel2)
      | fail)
    go_ret2
    rw [HY.out.1]
    exact ⟨v2, rfl, OW.out, B2.out⟩
  · have HN := Lib.hid (headV_no h)
    have hd : decide (f < 1) = true ∨ (decide (f < 1) = false ∧ decide (1099511627776 < f) = true) := by
      by_cases h1 : f < 1
      · exact .inl (decide_eq_true h1)
      · exact .inr ⟨decide_eq_false h1, decide_eq_true (by omega)⟩
    clear h
    rcases hd with hd | ⟨hd, hd2⟩
    all_goals
      go_enter Try.func30, Try.ntmps30
      go_wp2
      go_ret2
      rw [HN.out.1, HN.out.2]
      exact ⟨_, rfl, Own.nil _ _ _ (fun _ h => h.elim) _ _, Below.refl _ _⟩

set_option maxHeartbeats 4000000 in
theorem refsegHead_any (f : Int) (hf : I64 f) (w : World) :
    Calls Try.prog 31 #[.int .i64 f] w fun e w' => ∃ v, e = .returned (.tuple #[v, .int .i64 (headE f)]) ∧ Own byteRep w' w.heap.size (fun _ => False) 5 v (headV f) ∧ Below w.heap.size w w' := by
  by_cases h : 1 ≤ f ∧ f ≤ 1099511627776
  · have HY := Lib.hid (headV_yes h)
    have HE := Lib.hid (head_enc hf)
    have HF := Lib.hid hf
    have HB := Lib.hid (show (headB8 f) = encV [numF f] from rfl)
    have HP := Lib.hid (putV_of (p := headB8 f) (by rw [HE.out.2.1]; omega))
    obtain ⟨h1, h2⟩ := h
    have d1 : decide (f < 1) = false := decide_eq_false (by omega)
    have d2 : decide (1099511627776 < f) = false := decide_eq_false (by omega)
    clear hf
    go_enter Try.func31, Try.ntmps31
    go_wp2_with (first
      | (go_at_call 44; (with_reducible refine (num_any f _).mono ?_); rintro e w0 ⟨rfl, bel0⟩; have B0 := Lib.hid bel0; clear bel0)
      | (go_at_call 26; (with_reducible refine (refencode_any _ 1 1 [numF f] _ (one_num (w := w0) HF.out 71 rfl) (by omega)).mono ?_); rintro e w1 ⟨v1, rfl, own1, bel1⟩; rw [HE.out.1]; rw [← HB.out] at own1; obtain ⟨A1, c1, rfl, hl1, hc1, sl1⟩ := own1.isSlB; rw [HE.out.2.1] at hl1 sl1 ⊢; have SL1 := Lib.hid sl1; have B1 := Lib.hid ((B0.out.alloc B0.out.size (.cells #[.int .i64 1, .int .i64 f, .string ByteArray.empty] 71)).trans (bel1.mono (by have := B0.out.size; simp; omega))); clear own1 sl1 bel1)
      | (go_at_call 37; (with_reducible refine (refput_any A1 11 c1 (headB8 f) _ SL1.out hl1 hc1).mono ?_); rintro e w2 ⟨v2, rfl, own2, bel2⟩; rw [HP.out.2]; rw [HP.out.1, ← HY.out.2.1] at own2; have OW := Lib.hid (own2.mono B1.out.size); have B2 := Lib.hid (B1.out.trans (bel2.mono B1.out.size)); clear own2 bel2)
      | fail)
    go_ret2
    rw [HY.out.1]
    exact ⟨v2, rfl, OW.out, B2.out⟩
  · have HN := Lib.hid (headV_no h)
    have hd : decide (f < 1) = true ∨ (decide (f < 1) = false ∧ decide (1099511627776 < f) = true) := by
      by_cases h1 : f < 1
      · exact .inl (decide_eq_true h1)
      · exact .inr ⟨decide_eq_false h1, decide_eq_true (by omega)⟩
    clear h
    rcases hd with hd | ⟨hd, hd2⟩
    all_goals
      go_enter Try.func31, Try.ntmps31
      go_wp2
      go_ret2
      rw [HN.out.1, HN.out.2]
      exact ⟨_, rfl, Own.nil _ _ _ (fun _ h => h.elim) _ _, Below.refl _ _⟩
end Go.Proofs.Ytcohheoahdbgmaa
