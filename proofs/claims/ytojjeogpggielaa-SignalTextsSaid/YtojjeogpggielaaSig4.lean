/- Contract: the reference's Parse. -/
import Derived.Test.YtojjeogpggielaaSig3
set_option linter.unusedVariables false
namespace Go.Proofs.Ytojjeogpggielaa
open Go.RowKit

theorem byte_at (s : ByteArray) (k : Nat) (h : k < s.size) : s.data.toList.drop k = s[k] :: s.data.toList.drop (k + 1) := by
  have h' : k < s.data.toList.length := by rw [← Lib.size_eq]; exact h
  rw [List.drop_eq_getElem_cons h']
  rfl

theorem rest10 (s : ByteArray) (h : s.size = 10) : s.data.toList.drop 9 = [s[9]'(by omega)] := by
  rw [byte_at s 9 (by omega), List.drop_eq_nil_of_le (by rw [← Lib.size_eq]; omega)]

theorem rest12 (s : ByteArray) (h : s.size = 12) : s.data.toList.drop 9 = [s[9]'(by omega), s[10]'(by omega), s[11]'(by omega)] := by
  rw [byte_at s 9 (by omega), byte_at s 10 (by omega), byte_at s 11 (by omega), List.drop_eq_nil_of_le (by rw [← Lib.size_eq]; omega)]

theorem parseS_len (s : ByteArray) (h : s.size ≠ 10) (h2 : s.size ≠ 12) : parseS s.data.toList = (0, 0, false) := by
  unfold parseS
  split
  · rename_i hp
    have hl : (s.data.toList.drop 9).length = s.size - 9 := by rw [List.length_drop, ← Lib.size_eq]
    have hge : 9 ≤ s.size := by
      have := List.IsPrefix.length_le (List.isPrefixOf_iff_prefix.1 hp)
      rw [← Lib.size_eq] at this
      exact this
    unfold restOf
    split
    · rename_i e; rw [e] at hl; simp at hl; omega
    · rename_i e; rw [e] at hl; simp at hl; omega
    · rfl
  · rfl

set_option maxHeartbeats 2000000 in
theorem refparse_any (s : ByteArray) (w : World) (hs : s.size ≤ maxLen) :
    Calls Try.prog 40 #[.string s] w fun e w' => e = .returned (sigV (parseS s.data.toList)) ∧ Below w.heap.size w w' := by
  have hraw : (decide (9 ≤ s.size) && ((s.extract 0 9).toList == [115, 110, 97, 112, 115, 104, 111, 116, 32])) = Lib.hasPrefix s.data.toList wordL := by
    have h := Lib.hasPrefix_raw s ⟨#[115, 110, 97, 112, 115, 104, 111, 116, 32]⟩
    rw [Lib.toList_data ⟨#[115, 110, 97, 112, 115, 104, 111, 116, 32]⟩] at h
    exact h
  by_cases h10 : s.size = 10
  · rw [decide_eq_true (show 9 ≤ s.size by omega), Bool.true_and] at hraw
    have hi : (s.size : Int) = 10 := by omega
    cases hb : Lib.hasPrefix s.data.toList wordL
    · have HP := Lib.hid (show parseS s.data.toList = (0, 0, false) by unfold parseS; rw [hb]; rfl)
      rw [hb] at hraw
      clear hb
      go_enter Try.func40, Try.ntmps40
      go_wp2
      go_returns
      refine ⟨by rw [HP.out]; rfl, ?_⟩
      repeat first | exact Below.refl _ _ | refine Below.alloc ?_ (by simp) _ | refine Below.setCell ?_ (by simp) _ | refine below_drewN ?_ _
    · have hP : parseS s.data.toList = restOf (s.data.toList.drop 9) := by unfold parseS; rw [hb]; rfl
      rw [rest10 s h10] at hP
      obtain ⟨x, hx⟩ : ∃ x, s[9]'(by omega) = x := ⟨_, rfl⟩
      rw [hx] at hP
      have hxl := x.toNat_lt
      rw [hb] at hraw
      clear hb
      have hP' : parseS s.data.toList = if 48 ≤ x.toNat ∧ x.toNat ≤ 55 then ((x.toNat : Int) - 48, (1 : Int), true) else ((0 : Int), (0 : Int), false) := hP
      have hc : (x.toNat : Int) < 48 ∨ (48 ≤ (x.toNat : Int) ∧ 55 < (x.toNat : Int)) ∨ (48 ≤ (x.toNat : Int) ∧ (x.toNat : Int) ≤ 55) := by omega
      rcases hc with hc | ⟨hc, hd⟩ | ⟨hc, hd⟩
      all_goals
        first | rw [if_neg (by omega)] at hP' | rw [if_pos (by omega)] at hP'
        have HP := Lib.hid hP'
        clear hP hP'
        go_enter Try.func40, Try.ntmps40
        go_wp2
        go_returns
        refine ⟨by rw [HP.out]; rfl, ?_⟩
        repeat first | exact Below.refl _ _ | refine Below.alloc ?_ (by simp) _ | refine Below.setCell ?_ (by simp) _ | refine below_drewN ?_ _
  · by_cases h12 : s.size = 12
    · rw [decide_eq_true (show 9 ≤ s.size by omega), Bool.true_and] at hraw
      have hi : (s.size : Int) = 12 := by omega
      cases hb : Lib.hasPrefix s.data.toList wordL
      · have HP := Lib.hid (show parseS s.data.toList = (0, 0, false) by unfold parseS; rw [hb]; rfl)
        rw [hb] at hraw
        clear hb
        go_enter Try.func40, Try.ntmps40
        go_wp2
        go_returns
        refine ⟨by rw [HP.out]; rfl, ?_⟩
        repeat first | exact Below.refl _ _ | refine Below.alloc ?_ (by simp) _ | refine Below.setCell ?_ (by simp) _ | refine below_drewN ?_ _
      · have hP : parseS s.data.toList = restOf (s.data.toList.drop 9) := by unfold parseS; rw [hb]; rfl
        rw [rest12 s h12] at hP
        obtain ⟨x, hx⟩ : ∃ x, s[9]'(by omega) = x := ⟨_, rfl⟩
        obtain ⟨a, ha⟩ : ∃ a, s[10]'(by omega) = a := ⟨_, rfl⟩
        obtain ⟨y, hy⟩ : ∃ y, s[11]'(by omega) = y := ⟨_, rfl⟩
        rw [hx, ha, hy] at hP
        have hxl := x.toNat_lt
        have hyl := y.toNat_lt
        rw [hb] at hraw
        clear hb
        have hP' : parseS s.data.toList = if 48 ≤ x.toNat ∧ x.toNat ≤ 55 ∧ a = 32 ∧ 49 ≤ y.toNat ∧ y.toNat ≤ 56 then ((x.toNat : Int) - 48, (y.toNat : Int) - 48, true) else ((0 : Int), (0 : Int), false) := hP
        clear hP
        have ha32 : a = 32 ∨ (¬ a = 32 ∧ ((a.toNat : Int) < 32 ∨ 32 < (a.toNat : Int))) := by
          by_cases h : a = 32
          · exact .inl h
          · refine .inr ⟨h, ?_⟩
            have : ¬ a.toNat = 32 := fun e => h (UInt8.toNat_inj.1 e)
            omega
        have hc : (x.toNat : Int) < 48 ∨ (48 ≤ (x.toNat : Int) ∧ 55 < (x.toNat : Int)) ∨ (48 ≤ (x.toNat : Int) ∧ (x.toNat : Int) ≤ 55) := by omega
        have he : (y.toNat : Int) < 49 ∨ (49 ≤ (y.toNat : Int) ∧ 56 < (y.toNat : Int)) ∨ (49 ≤ (y.toNat : Int) ∧ (y.toNat : Int) ≤ 56) := by omega
        rcases hc with hc | ⟨hc, hd⟩ | ⟨hc, hd⟩
        · rw [if_neg (by omega)] at hP'
          have HP := Lib.hid hP'
          clear hP'
          go_enter Try.func40, Try.ntmps40
          go_wp2
          go_returns
          refine ⟨by rw [HP.out]; rfl, ?_⟩
          repeat first | exact Below.refl _ _ | refine Below.alloc ?_ (by simp) _ | refine Below.setCell ?_ (by simp) _ | refine below_drewN ?_ _
        · rw [if_neg (by omega)] at hP'
          have HP := Lib.hid hP'
          clear hP'
          go_enter Try.func40, Try.ntmps40
          go_wp2
          go_returns
          refine ⟨by rw [HP.out]; rfl, ?_⟩
          repeat first | exact Below.refl _ _ | refine Below.alloc ?_ (by simp) _ | refine Below.setCell ?_ (by simp) _ | refine below_drewN ?_ _
        · rcases ha32 with rfl | ⟨ha1, ha2⟩
          · rcases he with he | ⟨he, hf⟩ | ⟨he, hf⟩
            all_goals
              first | rw [if_neg (by omega)] at hP' | rw [if_pos ⟨by omega, by omega, rfl, by omega, by omega⟩] at hP'
              have HP := Lib.hid hP'
              clear hP'
              go_enter Try.func40, Try.ntmps40
              go_wp2
              go_returns
              refine ⟨by rw [HP.out]; rfl, ?_⟩
              repeat first | exact Below.refl _ _ | refine Below.alloc ?_ (by simp) _ | refine Below.setCell ?_ (by simp) _ | refine below_drewN ?_ _
          · rw [if_neg (fun h => ha1 h.2.2.1)] at hP'
            have HP := Lib.hid hP'
            have hb1 : ((a.toNat : Int) == 32) = false := by simp; omega
            have hb2 : ((a.toNat : Int) != 32) = true := by simp; omega
            have hb3 : ¬ (a.toNat : Int) = 32 := by omega
            have hb4 : ¬ a.toNat = 32 := by omega
            clear hP' ha2
            go_enter Try.func40, Try.ntmps40
            go_wp2
            go_returns
            refine ⟨by rw [HP.out]; rfl, ?_⟩
            repeat first | exact Below.refl _ _ | refine Below.alloc ?_ (by simp) _ | refine Below.setCell ?_ (by simp) _ | refine below_drewN ?_ _
    · have HP := Lib.hid (parseS_len s h10 h12)
      have hi1 : ((s.size : Int) == 10) = false := by simp; omega
      have hi2 : ((s.size : Int) == 12) = false := by simp; omega
      clear hraw
      go_enter Try.func40, Try.ntmps40
      go_wp2
      go_returns
      refine ⟨by rw [HP.out]; rfl, ?_⟩
      repeat first | exact Below.refl _ _ | refine Below.alloc ?_ (by simp) _ | refine Below.setCell ?_ (by simp) _ | refine below_drewN ?_ _
end Go.Proofs.Ytojjeogpggielaa
