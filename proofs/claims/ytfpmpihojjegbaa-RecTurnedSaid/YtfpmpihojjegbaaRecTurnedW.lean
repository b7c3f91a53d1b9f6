/- The walk of RecTurned. -/
import Derived.Test.YtfpmpihojjegbaaHelpB2
import Derived.Test.YtfpmpihojjegbaaRecQ
namespace Go.Proofs.Ytfpmpihojjegbaa
open Go.RowKit

theorem shr_bit (b k : Nat) (hb : b < 4294967296) : bits .and .u32 ((b : Int) / 2 ^ k) 1 = ((b / 2 ^ k % 2 : Nat) : Int) := by
  have h1 : ((b : Int) / 2 ^ k) = ((b / 2 ^ k : Nat) : Int) := by simp
  rw [h1]
  exact and_one _ (Nat.lt_of_le_of_lt (Nat.div_le_self _ _) hb)

theorem flip_bits (x : UInt8) (r : Nat) (hr : r < 8) : bits .xor .u8 (x.toNat : Int) (2 ^ r % 256) = ((flipB x r).toNat : Int) := by
  have h2 : 2 ^ r < 256 := Nat.lt_of_lt_of_le (Nat.pow_lt_pow_right (by omega) hr) (by decide)
  have h1 : (2 : Int) ^ r % 256 = ((2 ^ r : Nat) : Int) := by
    have : ((2 : Int) ^ r) = ((2 ^ r : Nat) : Int) := by simp
    rw [this]
    generalize 2 ^ r = p at h2
    omega
  rw [h1, u8_xor_nat _ _ (by have := x.toNat_lt; omega) h2, flipB_toNat x r hr]

theorem turned_some {b k : Nat} (h : b / 2 ^ k % 2 = 1) : (!(b % 2 ^ (k + 1) == 0)) = true := by
  have h1 := Nat.mod_pow_succ (b := 2) (x := b) (k := k)
  rw [h, Nat.mul_one] at h1
  have h2 := Nat.two_pow_pos k
  have : ¬ b % 2 ^ (k + 1) = 0 := by omega
  simpa using this

theorem head_set (p q : List UInt8) (i : Nat) (y : UInt8) : (headB p ++ q).set (8 + i) y = headB p ++ q.set i y := by
  rw [List.set_append, if_neg (by rw [headB_len]; omega), headB_len, Nat.add_sub_cancel_left]

theorem head_at (p q : List UInt8) (i : Nat) : (headB p ++ q)[8 + i]? = q[i]? := by
  rw [List.getElem?_append_right (by rw [headB_len]; omega), headB_len, Nat.add_sub_cancel_left]

set_option linter.unusedVariables false in
set_option maxHeartbeats 2000000 in
theorem recTurned_walk (w : World) (A : Option Addr) (n c : Nat) (p : List UInt8) (h : IsSl byteRep w (· < w.heap.size) A n p) (h1 : n ≤ c) (h2 : c ≤ maxLen) (at_ : Int) (_ : I64 at_) (bt : Int) (hbt : (Lit.int .u32 bt).wf = true) :
    Calls Try.prog 10 #[.slice A n c, .int .i64 at_, .int .u32 bt] w fun e w' => e = .returned (.bool true) ∧ Below w.heap.size w w' := by
  have hs' : 0 ≤ bt ∧ bt < 4294967296 := by
    simp [Lit.wf, IntKind.min, IntKind.max, IntKind.bits, IntKind.signed] at hbt
    omega
  obtain ⟨bt, rfl⟩ := Int.eq_ofNat_of_zero_le hs'.1
  have hb32 : bt < 4294967296 := by omega
  clear hs' hbt
  have H := Lib.hid h
  have HL := Lib.hid h.len
  clear h
  have hn0 : n ≤ maxLen := by omega
  by_cases hbig : n = 0 ∨ 4000 < n
  · rcases hbig with h0 | h0
    · subst h0
      go_enter Try.func10, Try.ntmps10
      go_wp2_with (first
        | (go_at_call 30; (with_reducible refine (awake03_any _).mono ?_); rintro e w1 ⟨rfl, bel1⟩)
        | fail)
      go_ret
      exact ⟨rfl, bel1⟩
    · go_enter Try.func10, Try.ntmps10
      go_wp2_with (first
        | (go_at_call 30; (with_reducible refine (awake03_any _).mono ?_); rintro e w1 ⟨rfl, bel1⟩)
        | fail)
      go_ret
      exact ⟨rfl, bel1⟩
  · have hn1 : 1 ≤ n := by omega
    have hn4 : n ≤ 4000 := by omega
    clear hbig
    have HE := Lib.hid (show putE p = 0 by unfold putE; rw [if_pos (by rw [← HL.out]; omega)])
    have HV := Lib.hid (show putV p = headB p ++ p by unfold putV; rw [if_pos (by rw [← HL.out]; omega), putB_head])
    have HBL := Lib.hid (show (headB p ++ p).length = 8 + n by rw [List.length_append, headB_len, ← HL.out])
    have hr := modOf_range at_ (8 * (n : Int)) (by omega)
    obtain ⟨f, hf⟩ := Int.eq_ofNat_of_zero_le hr.1
    rw [hf] at hr
    have HF := Lib.hid hf
    have hf8 : f < 8 * n := by omega
    have hne0 : ((n : Int) == 0) = false := by simp; omega
    have hlne : headB p ++ p ≠ [] := by intro e; have := congrArg List.length e; rw [HBL.out] at this; simp at this
    clear hf hr
    go_enter Try.func10, Try.ntmps10
    go_wp2_with (first
      | (go_at_call 28; (with_reducible refine (put_any A n c p _ H.out h1 h2).mono ?_); rintro e w1 ⟨v1, rfl, own1, bel1⟩; rw [HE.out]; rw [HV.out] at own1; obtain ⟨g, cap, rfl, hgB, hgl, hcp1, hcp2⟩ := own1.form1 hlne; rw [HBL.out] at hcp1 ⊢; have OWN1 := Lib.hid own1; have BEL1 := Lib.hid bel1; have hs1 := bel1.size; clear own1 bel1)
      | (go_at_call 30; (with_reducible refine (awake03_any _).mono ?_); rintro e w2 ⟨rfl, bel2⟩; have OWN2 := Lib.hid (OWN1.out.below bel2); have BEL2 := Lib.hid (BEL1.out.trans (bel2.mono hs1)); have hs2 := BEL2.out.size; clear bel2)
      | (go_at_call 24; (with_reducible refine (mod_any at_ (8 * (n : Int)) _ (by omega) (by omega)).mono ?_); rintro e w' ⟨rfl, rfl⟩; rw [HF.out])
      | fail)
    rw [HBL.out] at OWN2
    go_loopw [10, 11] (fun t i wr => ∃ (k : Nat) (p' : List UInt8), k ≤ 32 ∧ f + k ≤ 8 * n ∧ i = .int .i64 k ∧ t = .bool (!(bt % 2 ^ k == 0)) ∧ Own byteRep wr w.heap.size (fun _ => False) 5 (.slice (some ⟨g, 0, none⟩) (8 + n) cap) (headB p ++ p') ∧ Turned p p' f bt k ∧ Below w.heap.size w wr) (fun _ i _ => 32 - (intOf i).toNat)
    case atStart => exact ⟨0, p, by omega, by omega, rfl, by simp [Nat.mod_one], OWN2.out, turned_zero p f bt, BEL2.out⟩
    case round =>
      obtain ⟨k, p', hk, hfk, rfl, rfl, hown, htu, hbel⟩ := hrel
      have HO := Lib.hid hown
      have HT := Lib.hid htu
      clear hown htu
      by_cases hlt : k < 32 ∧ f + k < 8 * n
      · obtain ⟨hk32, hfk2⟩ := hlt
        have hq : (f + k) / 8 < p'.length := by rw [(HT.out).1, ← HL.out]; omega
        obtain ⟨x, hx⟩ : ∃ x, p'[(f + k) / 8]? = some x := ⟨_, List.getElem?_eq_getElem hq⟩
        obtain ⟨hcell, hfroz⟩ := own_byte HO.out (k := 8 + (f + k) / 8) ((head_at p p' _).trans hx)
        have hbit := shr_bit bt k hb32
        have hfl := flip_bits x ((f + k) % 8) (Nat.mod_lt _ (by omega))
        have HX := Lib.hid hx
        clear hx hfk hk hq
        rcases Nat.mod_two_eq_zero_or_one (bt / 2 ^ k) with hb | hb
        · rw [hb] at hbit
          have HB := Lib.hid hb
          clear hb
          go_wp2
          go_roundw
          case rel => exact ⟨k + 1, p', by omega, by omega, by go_num, by rw [mod_pow_succ, HB.out, Nat.zero_mul, Nat.xor_zero], HO.out, turned_skip HT.out HB.out, hbel⟩
          case measure => simp [intOf]; omega
        · rw [hb] at hbit
          have HB := Lib.hid hb
          clear hb
          go_wp2
          go_roundw
          case rel => exact ⟨k + 1, p'.set ((f + k) / 8) (flipB x ((f + k) % 8)), by omega, by omega, by go_num, by rw [turned_some HB.out], by rw [← head_set]; first | exact own_byte_set _ HO.out ((head_at p p' _).trans HX.out) | (rw [hfl]; exact own_byte_set _ HO.out ((head_at p p' _).trans HX.out)), turned_flip HT.out HB.out HX.out (by rw [← HL.out]; exact hfk2), hbel.setCell hgB _⟩
          case measure => simp [intOf]; omega
      · have hex : k = 32 ∨ (k < 32 ∧ f + k = 8 * n) := by omega
        have htell := take_turned HT.out hk (by rw [← HL.out]; omega)
        have hlen : (headB p ++ p').length = 8 + n := by rw [List.length_append, headB_len, HT.out.1, ← HL.out]
        obtain ⟨A', cap', hv, hcq1, hcq2, hsl⟩ := HO.out.isSlB
        obtain ⟨rfl, rfl⟩ : A' = some ⟨g, 0, none⟩ ∧ cap' = cap := by injection hv with a b c; exact ⟨a.symm, c.symm⟩
        rw [hlen] at hsl hcq1
        have HSL := Lib.hid hsl
        have HTD : Hid ((bt % 2 ^ k = 0 ∧ takeE (headB p ++ p') = 0) ∨ (¬ bt % 2 ^ k = 0 ∧ takeE (headB p ++ p') = 4)) := Lib.hid (by rw [htell]; by_cases h0 : bt % 2 ^ k = 0 <;> simp [h0])
        clear htell hsl hv hlen
        rcases hex with rfl | ⟨hk3, hfk3⟩
        all_goals
          clear hlt
        all_goals
          go_wp2_with (first
            | (go_at_call 32; (with_reducible refine (take_any (some ⟨g, 0, none⟩) (8 + n) cap' (headB p ++ p') _ HSL.out hcq1 hcp2).mono ?_); rintro e w5 ⟨v5, rfl, own5, bel5⟩; obtain ⟨A5, c5, rfl⟩ := own5.form; have BEL5 := Lib.hid (hbel.trans (bel5.mono hbel.size)); clear own5 bel5)
            | fail)
        all_goals go_ret
        all_goals refine ⟨?_, BEL5.out⟩
        all_goals have D := HTD.out
        all_goals try simp only [Nat.reducePow] at D
        all_goals rcases D with ⟨a, b⟩ | ⟨a, b⟩
        all_goals first | (simp [a, b]; done) | (exfalso; simp_all; done)
end Go.Proofs.Ytfpmpihojjegbaa
