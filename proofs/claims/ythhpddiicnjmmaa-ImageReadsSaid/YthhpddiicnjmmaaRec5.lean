/- Contracts: slices.Equal and slices.Clone at bytes. -/
import Derived.Test.YthhpddiicnjmmaaRec4
import Derived.Deep.QuietTactic
import Derived.BigQuiet
set_option maxRecDepth 100000
namespace Go.Proofs.Ythhpddiicnjmmaa
open Go.RowKit

theorem IsSl.byteAt {w w' : World} {S : Nat → Prop} {A : Option Addr} {n k : Nat} {l : List UInt8} (h : IsSl byteRep w S A n l) (hk : k < n) (hkp : ∀ p : Addr, S p.block → w'.cell? p = w.cell? p) :
    ∃ b off x, A = some ⟨b, off, none⟩ ∧ S b ∧ l[k]? = some x ∧ w'.cell? ⟨b, off + k, none⟩ = some (.int .u8 (x.toNat : Int)) := by
  obtain ⟨b, off, x, cs, rfl, hS, hx, ⟨rfl, _⟩, hc⟩ := h.at_ hk
  refine ⟨b, off, x, rfl, hS, hx, ?_⟩
  have h0 := hc 0 _ rfl
  rw [show off + k * byteRep.size + 0 = off + k by show off + k * 1 + 0 = _; omega] at h0
  exact (hkp ⟨b, off + k, none⟩ hS).trans h0

theorem eq_take {l m : List UInt8} {k : Nat} {x y : UInt8} (hx : l[k]? = some x) (hy : m[k]? = some y) (h : l.take k = m.take k) : (l.take (k + 1) = m.take (k + 1)) ↔ x = y := by
  rw [take_snoc hx, take_snoc hy, h]
  simp

set_option maxHeartbeats 1000000 in
theorem equal_any (A A2 : Option Addr) (n n2 c c2 : Nat) (l m : List UInt8) (w : World) (S S2 : Nat → Prop) (h : IsSl byteRep w S A n l) (h2 : IsSl byteRep w S2 A2 n2 m) (hn : n ≤ maxLen) (hn2 : n2 ≤ maxLen) :
    Calls Try.prog 122 #[.slice A n c, .slice A2 n2 c2] w fun e w' => e = .returned (.bool (decide (l = m))) ∧ ∃ q, w' = w.drewN q := by
  unfold maxLen at hn hn2
  have HL := Lib.hid h.len
  have HL2 := Lib.hid h2.len
  by_cases hne : n = n2
  · subst hne
    go_enter Try.func122, Try.ntmps122
    go_wp2_with fail
    go_loopw [13] (fun i wr => ∃ k q : Nat, i = .int .i64 k ∧ k ≤ n ∧ l.take k = m.take k ∧ wr = w.drewN q) (fun i _ => n - (intOf i).toNat)
    case atStart => exact ⟨0, 0, rfl, Nat.zero_le _, rfl, rfl⟩
    case round =>
      obtain ⟨k, q, rfl, hk, htk, rfl⟩ := hrel
      by_cases hlt : k < n
      · obtain ⟨b, off, x, rfl, _, hx, c0⟩ := h.byteAt (w' := w.drewN q) hlt (fun _ _ => rfl)
        obtain ⟨b2, off2, y, rfl, _, hy, d0⟩ := h2.byteAt (w' := w.drewN q) hlt (fun _ _ => rfl)
        have hst := eq_take hx hy htk
        have HTK := Lib.hid htk
        have hk0 : decide ((k : Int) < 0) = false := by simp
        have hkn : decide ((k : Int) < (n : Int)) = true := by simp; omega
        have hkn2 : (k : Int) < (n : Int) := by omega
        have hk02 : (0 : Int) ≤ (k : Int) := by omega
        have c1' : w.cell? ⟨b, off + k, none⟩ = some (.int .u8 (x.toNat : Int)) := c0
        have d1' : w.cell? ⟨b2, off2 + k, none⟩ = some (.int .u8 (y.toNat : Int)) := d0
        by_cases hxy : x = y
        · subst hxy
          have HST := Lib.hid (hst.2 rfl)
          have hbq : ((x.toNat : Int) != (x.toNat : Int)) = false := by simp
          clear hst htk hx hy
          go_wp2_with fail
          go_quiet (fail)
          go_wp2_with fail
          go_roundw
          case rel => exact ⟨k + 1, _, by simp, by omega, HST.out, rfl⟩
          case measure => simp [intOf]; omega
        · have hlm : decide (l = m) = false := by
            simp
            intro e
            subst e
            rw [hx] at hy
            exact hxy (Option.some.inj hy)
          have HLM := Lib.hid hlm
          have hbq : ((x.toNat : Int) != (y.toNat : Int)) = true := by
            have : x.toNat ≠ y.toNat := fun e => hxy (UInt8.toNat_inj.1 e)
            simp
            omega
          have hbq2 : ((x.toNat : Int) == (y.toNat : Int)) = false := by
            have : x.toNat ≠ y.toNat := fun e => hxy (UInt8.toNat_inj.1 e)
            simp
            omega
          clear hst htk hx hy hlm hxy
          go_wp2_with fail
          go_quiet (fail)
          go_wp2_with fail
          go_ret
          rw [HLM.out]
          exact ⟨rfl, _, World.drewN_drewN _ _ _⟩
      · obtain rfl : k = n := by omega
        have hlm : decide (l = m) = true := by
          rw [List.take_of_length_le (by rw [← HL.out]; exact Nat.le_refl _), List.take_of_length_le (by rw [← HL2.out]; exact Nat.le_refl _)] at htk
          simpa using htk
        have HLM := Lib.hid hlm
        clear hlm htk
        go_wp2_with fail
        go_ret
        rw [HLM.out]
        exact ⟨rfl, q, rfl⟩
  · have hf : decide (l = m) = false := by simp; intro e; subst e; exact hne (h.len.trans h2.len.symm)
    have HF := Lib.hid hf
    have hb : ((n : Int) == (n2 : Int)) = false := by simp; omega
    clear hf
    go_enter Try.func122, Try.ntmps122
    go_wp2_with fail
    all_goals go_outline
    go_ret
    rw [HF.out]
    exact ⟨rfl, 0, rfl⟩

set_option maxHeartbeats 400000 in
theorem cloneB_any (A : Option Addr) (n c : Nat) (l : List UInt8) (w : World) (h : IsSl byteRep w (· < w.heap.size) A n l) (hn : n ≤ 100000000000) :
    Calls Try.prog 123 #[.slice A n c] w fun e w' => ∃ v, e = .returned v ∧ Own byteRep w' w.heap.size (fun _ => False) 5 v l ∧ Below w.heap.size w w' := by
  obtain ⟨i0, hi, hz0, hz1, hz2⟩ := info_parts info_byte
  have hq := fun W : World => run_eql_nil_at (P := Try.prog) W 25 5 A n c Try.underlying25
  have hb0 : Below w.heap.size w (w.alloc (.cells #[] 5)) := (Below.refl _ _).alloc (Nat.le_refl _) _
  cases A with
  | none =>
    obtain rfl : n = 0 := by
      rcases Nat.eq_zero_or_pos n with h0 | h0
      · exact h0
      · obtain ⟨_, _, _, _, e, _⟩ := h.at_ h0; cases e
    obtain rfl : l = [] := List.eq_nil_of_length_eq_zero h.len.symm
    go_enter Try.func123, Try.ntmps123
    go_wp2
    go_ret
    exact ⟨_, rfl, Own.nil _ _ _ (fun _ h => h.elim) _ _, Below.refl _ _⟩
  | some a =>
    have H := Lib.hid h
    clear h
    go_enter Try.func123, Try.ntmps123
    go_wp2_with (at_builtin; refine wpList_append_Own _ rfl _ _ 25 rfl w.heap.size 5 i0 _ 1 Try.underlying25 hi hz0 hz1 hz2 rfl (R := byteRep) (S := fun _ => False) (l := []) (l' := l) (.slice (some ⟨w.heap.size, 0, none⟩) 0 0) rfl (Own.nil _ _ _ (fun _ h => h.elim) _ _) _ n c rfl ((H.out).srcF flat_byte hb0) (by simp only [maxLen, List.length_nil]; omega) (by simp only [List.length_nil]; omega) (by omega) (by simp) ?_; intro v1 w1 own1 gr1 at1; have hb1 := hb0.grown gr1 (by simp) (by intro k hk; simp [rowOf] at hk); simp only [List.nil_append] at own1; clear gr1 at1)
    all_goals go_outline
    go_ret
    exact ⟨_, rfl, own1, hb1⟩
end Go.Proofs.Ythhpddiicnjmmaa
