/- Contract: signal.Parse. -/
import Derived.Test.YtojjeogpggielaaSig2
set_option linter.unusedVariables false
namespace Go.Proofs.Ytojjeogpggielaa
open Go.RowKit

/-- A signal as the calls answer it. -/
def sigV (x : Int × Int × Bool) : Value := .tuple #[.agg #[.int .i64 x.1, .int .i64 x.2.1], .bool x.2.2]

set_option maxHeartbeats 2000000 in
theorem parse_any (s : ByteArray) (w : World) (hs : s.size ≤ maxLen) :
    Calls Try.prog 39 #[.string s] w fun e w' => e = .returned (sigV (parseS s.data.toList)) ∧ Below w.heap.size w w' := by
  cases hb : Lib.hasPrefix s.data.toList wordL
  · have HP := Lib.hid (show parseS s.data.toList = (0, 0, false) by unfold parseS; rw [hb]; rfl)
    have HB := Lib.hid (show Lib.hasPrefix s.data.toList (⟨#[115, 110, 97, 112, 115, 104, 111, 116, 32]⟩ : ByteArray).data.toList = false from hb)
    clear hb
    go_enter Try.func39, Try.ntmps39
    go_wp2_with (first
      | (go_at_call 80; (with_reducible refine (cutPrefix_any s _ _).mono ?_); rintro e w' ⟨rfl, rfl⟩; rw [HB.out])
      | fail)
    go_returns
    exact ⟨by rw [HP.out]; rfl, (Below.refl _ _).alloc (Nat.le_refl _) _⟩
  · have HP0 : Hid (parseS s.data.toList = restOf (s.data.toList.drop 9)) := Lib.hid (by unfold parseS; rw [hb]; rfl)
    have HB := Lib.hid (show Lib.hasPrefix s.data.toList (⟨#[115, 110, 97, 112, 115, 104, 111, 116, 32]⟩ : ByteArray).data.toList = true from hb)
    obtain ⟨r, hr⟩ : ∃ r : ByteArray, r = ⟨(Lib.trimPrefix s.data.toList (⟨#[115, 110, 97, 112, 115, 104, 111, 116, 32]⟩ : ByteArray).data.toList).toArray⟩ := ⟨_, rfl⟩
    have hrd : r.data.toList = s.data.toList.drop 9 := by
      rw [hr]
      show Lib.trimPrefix s.data.toList wordL = _
      unfold Lib.trimPrefix
      rw [if_pos hb]
      rfl
    have hrs : r.size ≤ maxLen := by rw [Lib.size_eq, hrd, List.length_drop, ← Lib.size_eq]; omega
    have HR := Lib.hid hr
    have HP := Lib.hid (show parseS s.data.toList = if tab r < 0 ∨ wgt r < 0 then (0, 0, false) else (tab r, wgt r, true) by rw [HP0.out, ← hrd]; exact rest_eq r)
    clear hb hr hrd HP0
    obtain ⟨t, ht⟩ : ∃ t, t = tab r := ⟨_, rfl⟩
    obtain ⟨g, hg⟩ : ∃ g, g = digitOf (cut2 r 32).data.toList 49 56 := ⟨_, rfl⟩
    have HT := Lib.hid (show digitOf (cut1 r 32).data.toList 48 55 = t from ht.symm)
    have HG := Lib.hid hg
    by_cases h0 : 0 ≤ Lib.indexByte r.data.toList 32
    · have hw : wgt r = g := by unfold wgt; rw [if_pos h0, ← hg]
      have HP2 := HP.out
      rw [← ht, hw] at HP2
      have HPP := Lib.hid HP2
      have H0 := Lib.hid (show decide (0 ≤ Lib.indexByte r.data.toList 32) = true from decide_eq_true h0)
      clear ht hg hw HP2 HP h0
      have hc : t < 0 ∨ (¬ t < 0 ∧ g < 0) ∨ (¬ t < 0 ∧ ¬ g < 0) := by omega
      rcases hc with hc | ⟨hc, hd⟩ | ⟨hc, hd⟩
      all_goals
        go_enter Try.func39, Try.ntmps39
        go_wp2_with (first
          | (go_at_call 80; (with_reducible refine (cutPrefix_any s _ _).mono ?_); rintro e w' ⟨rfl, rfl⟩; rw [HB.out, ← HR.out])
          | (go_at_call 81; (with_reducible refine (cut_any1 r 32 _ hrs).mono ?_); rintro e w' ⟨rfl, q, rfl⟩; rw [H0.out])
          | (go_at_call 82; (with_reducible refine (digit_any (cut1 r 32) 48 55 (by omega) (by omega) _).mono ?_); rintro e w' ⟨rfl, rfl⟩; rw [HT.out])
          | (go_at_call 82; (with_reducible refine (digit_any (cut2 r 32) 49 56 (by omega) (by omega) _).mono ?_); rintro e w' ⟨rfl, rfl⟩; rw [← HG.out])
          | fail)
        go_returns
        refine ⟨?_, ?_⟩
        · rw [HPP.out]
          first
            | (rw [if_pos (by omega)]; rfl)
            | (rw [if_neg (by omega)]; rfl)
        · repeat first | exact Below.refl _ _ | refine Below.alloc ?_ (by simp) _ | refine Below.setCell ?_ (by simp) _ | refine below_drewN ?_ _
    · have hw : wgt r = 1 := by unfold wgt; rw [if_neg h0]
      have HP2 := HP.out
      rw [← ht, hw] at HP2
      have HPP := Lib.hid HP2
      have H0 := Lib.hid (show decide (0 ≤ Lib.indexByte r.data.toList 32) = false from decide_eq_false h0)
      clear ht hg hw HP2 HP h0
      have hc : t < 0 ∨ ¬ t < 0 := by omega
      rcases hc with hc | hc
      all_goals
        go_enter Try.func39, Try.ntmps39
        go_wp2_with (first
          | (go_at_call 80; (with_reducible refine (cutPrefix_any s _ _).mono ?_); rintro e w' ⟨rfl, rfl⟩; rw [HB.out, ← HR.out])
          | (go_at_call 81; (with_reducible refine (cut_any1 r 32 _ hrs).mono ?_); rintro e w' ⟨rfl, q, rfl⟩; rw [H0.out])
          | (go_at_call 82; (with_reducible refine (digit_any (cut1 r 32) 48 55 (by omega) (by omega) _).mono ?_); rintro e w' ⟨rfl, rfl⟩; rw [HT.out])
          | (go_at_call 82; (with_reducible refine (digit_any (cut2 r 32) 49 56 (by omega) (by omega) _).mono ?_); rintro e w' ⟨rfl, rfl⟩; rw [← HG.out])
          | fail)
        go_returns
        refine ⟨?_, ?_⟩
        · rw [HPP.out]
          first
            | (rw [if_pos (by omega)]; rfl)
            | (rw [if_neg (by omega)]; rfl)
        · repeat first | exact Below.refl _ _ | refine Below.alloc ?_ (by simp) _ | refine Below.setCell ?_ (by simp) _ | refine below_drewN ?_ _

end Go.Proofs.Ytojjeogpggielaa
