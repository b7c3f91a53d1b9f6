/- The walk of the law ImageTurned. -/
import Derived.Test.YthhpddiicnjmmaaImg9
import Derived.Test.YthhpddiicnjmmaaMemB
set_option linter.unusedVariables false
set_option linter.unusedSimpArgs false
set_option maxRecDepth 100000
namespace Go.Proofs.Ythhpddiicnjmmaa
open Go.RowKit

theorem shr_bit (b k : Nat) (hb : b < 4294967296) : bits .and .u32 ((b : Int) / 2 ^ k) 1 = ((b / 2 ^ k % 2 : Nat) : Int) := by
  have h1 : ((b : Int) / 2 ^ k) = ((b / 2 ^ k : Nat) : Int) := by simp
  rw [h1]
  exact and_one _ (Nat.lt_of_le_of_lt (Nat.div_le_self _ _) hb)

theorem flip_bits (x : UInt8) (r : Nat) (hr : r < 8) : bits .xor .u8 (x.toNat : Int) (2 ^ r % 256) = ((flipB x r).toNat : Int) := by
  have h2 : 2 ^ r < 256 := Nat.lt_of_lt_of_le (Nat.pow_lt_pow_right (by omega) hr) (by decide)
  have h1 : (2 : Int) ^ r % 256 = ((2 ^ r : Nat) : Int) := by
    have : ((2 : Int) ^ r) = ((2 ^ r : Nat) : Int) := by simp
    rw [this]
    generalize 2 ^ r = p at h2
    omega
  rw [h1, u8_xor_nat _ _ (by have := x.toNat_lt; omega) h2, flipB_toNat x r hr]

theorem turned_some {b k : Nat} (h : b / 2 ^ k % 2 = 1) : (!(b % 2 ^ (k + 1) == 0)) = true := by
  have h1 := Nat.mod_pow_succ (b := 2) (x := b) (k := k)
  rw [h, Nat.mul_one] at h1
  have h2 := Nat.two_pow_pos k
  have : ¬ b % 2 ^ (k + 1) = 0 := by omega
  simpa using this

theorem head_set (p q : List UInt8) (i : Nat) (y : UInt8) : (headB p ++ q).set (8 + i) y = headB p ++ q.set i y := by
  rw [List.set_append, if_neg (by rw [headB_len]; omega), headB_len, Nat.add_sub_cancel_left]

theorem head_at (p q : List UInt8) (i : Nat) : (headB p ++ q)[8 + i]? = q[i]? := by
  rw [List.getElem?_append_right (by rw [headB_len]; omega), headB_len, Nat.add_sub_cancel_left]

/-- Bits of what an image holds that are turned make it none. -/
theorem img_turned {x : Img} (h : mayImg x = true) {p p' : List UInt8} {at_ k bits : Nat} (hp : p = encB (fieldsG x)) (ht : Turned p p' at_ bits k) (hk : k ≤ 32) (hz : bits % 2 ^ k = 0 → p' = p) : fromE (headB p ++ p') = if bits % 2 ^ k = 0 then 0 else 3 := by
  have hl := encG_len h
  rw [← hp] at hl
  by_cases h0 : bits % 2 ^ k = 0
  · rw [if_pos h0, hz h0, ← putB_head]
    have hv : imgV x = putB p := by unfold imgV; rw [if_pos h, hp]
    rw [← hv]
    exact (img_back h).2.1
  · rw [if_neg h0]
    have := take_turned ht hk (by omega)
    rw [if_neg h0] at this
    exact (from_bad (fun hr => by have := hr.1; omega)).2

set_option maxHeartbeats 4000000 in
theorem imageTurned_walk (w : World) (A : Option Addr) (n c : Nat) (T : List (List Row)) (h : IsSl (sliceRep rowRep) w (· < w.heap.size) A n T) (h1 : n ≤ c) (h2 : c ≤ maxLen) (at_ : Int) (_ : I64 at_) (bt : Int) (hbt : (Lit.int .u32 bt).wf = true) :
    Calls Try.prog 6 #[.slice A n c, .int .i64 at_, .int .u32 bt] w fun e w' => e = .returned (.bool true) ∧ Below w.heap.size w w' := by
  have hs' : 0 ≤ bt ∧ bt < 4294967296 := by
    simp [Lit.wf, IntKind.min, IntKind.max, IntKind.bits, IntKind.signed] at hbt
    omega
  obtain ⟨bt, rfl⟩ := Int.eq_ofNat_of_zero_le hs'.1
  have hb32 : bt < 4294967296 := by omega
  clear hs' hbt
  have H := Lib.hid h
  clear h
  have hmay := rightT_may T (k := 7) (by omega) (by omega)
  have HMAY := Lib.hid hmay
  have hpl := encG_len hmay
  obtain ⟨p, hp⟩ : ∃ p, p = encB (fieldsG (7, rightT T)) := ⟨_, rfl⟩
  have HE := Lib.hid (show imgE (7, rightT T) = 0 from if_pos hmay)
  have HV := Lib.hid (show imgV (7, rightT T) = headB p ++ p by rw [← putB_head, hp]; exact if_pos hmay)
  rw [← hp] at hpl
  have HP := Lib.hid hp
  obtain ⟨N, hN⟩ : ∃ N, N = p.length := ⟨_, rfl⟩
  have HL := Lib.hid hN
  have hn4 : N ≤ 400000 := by omega
  have hn1 : 1 ≤ N := by
    rw [hN, hp]; unfold encB; rw [List.length_append, bigB_len]; omega
  have HBL := Lib.hid (show (headB p ++ p).length = 8 + N by rw [List.length_append, headB_len, ← hN])
  have hr := modOf_range at_ (8 * (N : Int)) (by omega)
  obtain ⟨f, hf⟩ := Int.eq_ofNat_of_zero_le hr.1
  rw [hf] at hr
  have HF := Lib.hid hf
  have hf8 : f < 8 * N := by omega
  have hlne : headB p ++ p ≠ [] := by intro e; have := congrArg List.length e; rw [HBL.out] at this; simp at this
  have HM := Lib.hid (show 8 * ((8 + (N : Int)) - 8) = 8 * (N : Int) by omega)
  have hd9 : decide ((8 + (N : Int)) < 9) = false := decide_eq_false (by omega)
  clear hf hr hmay hp hpl hN
  go_enter Try.func6, Try.ntmps6
  go_wp2_with (first
    | (go_at_call 16; (with_reducible refine (right10_any A n c T _ H.out).mono ?_); rintro e w1 ⟨A1, c1, rfl, s1, l1, m1, bel1⟩; have S1 := Lib.hid s1; have B1 := Lib.hid bel1; clear s1 bel1)
    | (go_at_call 13; (with_reducible refine (imgEncode_any 7 (by unfold I64; omega) A1 (rightT T).length c1 (rightT T) w1 S1.out).mono ?_); rintro e w2 ⟨v2, rfl, own2, bel2⟩; rw [HE.out]; rw [HV.out] at own2; obtain ⟨g, cap, rfl, hgB, hgl, hcp1, hcp2⟩ := own2.form1 hlne; rw [HBL.out] at hcp1 ⊢; have OWN2 := Lib.hid (own2.mono B1.out.size); have B2 := Lib.hid (bel_n B1.out bel2); have hs2 := B2.out.size; have hgB2 : w.heap.size ≤ g := Nat.le_trans B1.out.size hgB; clear own2 bel2)
    | (go_at_call 12; (with_reducible refine (awake10 _).mono ?_); rintro e w3 ⟨rfl, bel3⟩; have OWN3 := Lib.hid (OWN2.out.below bel3); have B3 := Lib.hid (bel_n B2.out bel3); have hs3 := B3.out.size; clear bel3)
    | (go_at_call 19; (try rw [HM.out]); (with_reducible refine (mod_any at_ (8 * (N : Int)) _ (by omega) (by omega)).mono ?_); rintro e w' ⟨rfl, rfl⟩; rw [HF.out])
    | fail)
  rw [HBL.out] at OWN3
  go_loopw [10, 11] (fun t i wr => ∃ (k : Nat) (p' : List UInt8), k ≤ 32 ∧ f + k ≤ 8 * N ∧ i = .int .i64 k ∧ t = .bool (!(bt % 2 ^ k == 0)) ∧ Own byteRep wr w.heap.size (fun _ => False) 5 (.slice (some ⟨g, 0, none⟩) (8 + N) cap) (headB p ++ p') ∧ Turned p p' f bt k ∧ (bt % 2 ^ k = 0 → p' = p) ∧ Below w.heap.size w wr) (fun _ i _ => 32 - (intOf i).toNat)
  case atStart => exact ⟨0, p, by omega, by omega, rfl, by simp [Nat.mod_one], OWN3.out, turned_zero p f bt, fun _ => rfl, B3.out⟩
  case round =>
    obtain ⟨k, p', hk, hfk, rfl, rfl, hown, htu, hnot, hbel⟩ := hrel
    have HO := Lib.hid hown
    have HT := Lib.hid htu
    have HNOT := Lib.hid hnot
    clear hown htu hnot
    by_cases hlt : k < 32 ∧ f + k < 8 * N
    · obtain ⟨hk32, hfk2⟩ := hlt
      have hd1 : decide ((f : Int) + (k : Int) < 8 * ((8 + (N : Int)) - 8)) = true := decide_eq_true (by omega)
      have hq : (f + k) / 8 < p'.length := by rw [(HT.out).1, ← HL.out]; omega
      obtain ⟨x, hx⟩ : ∃ x, p'[(f + k) / 8]? = some x := ⟨_, List.getElem?_eq_getElem hq⟩
      obtain ⟨hcell, hfroz⟩ := own_byte HO.out (k := 8 + (f + k) / 8) ((head_at p p' _).trans hx)
      have hbit := shr_bit bt k hb32
      have hfl := flip_bits x ((f + k) % 8) (Nat.mod_lt _ (by omega))
      have HX := Lib.hid hx
      clear hx hfk hk hq
      rcases Nat.mod_two_eq_zero_or_one (bt / 2 ^ k) with hb | hb
      · rw [hb] at hbit
        have HB := Lib.hid hb
        clear hb
        go_wp2
        go_roundw
        case rel => exact ⟨k + 1, p', by omega, by omega, by go_num, by rw [mod_pow_succ, HB.out, Nat.zero_mul, Nat.xor_zero], HO.out, turned_skip HT.out HB.out, by rw [mod_pow_succ, HB.out, Nat.zero_mul, Nat.xor_zero]; exact HNOT.out, hbel⟩
        case measure => simp [intOf]; omega
      · rw [hb] at hbit
        have HB := Lib.hid hb
        clear hb
        go_wp2
        go_roundw
        case rel => exact ⟨k + 1, p'.set ((f + k) / 8) (flipB x ((f + k) % 8)), by omega, by omega, by go_num, by rw [turned_some HB.out], by rw [← head_set]; first | exact own_byte_set _ HO.out ((head_at p p' _).trans HX.out) | (rw [hfl]; exact own_byte_set _ HO.out ((head_at p p' _).trans HX.out)), turned_flip HT.out HB.out HX.out (by rw [← HL.out]; exact hfk2), (fun h0 => by have := turned_some HB.out; rw [h0] at this; simp at this), hbel.setCell hgB2 _⟩
        case measure => simp [intOf]; omega
    · have hex : k = 32 ∨ (k < 32 ∧ f + k = 8 * N) := by omega
      have htell := img_turned HMAY.out HP.out HT.out hk HNOT.out
      have hlen : (headB p ++ p').length = 8 + N := by rw [List.length_append, headB_len, HT.out.1, ← HL.out]
      obtain ⟨A', cap', hv, hcq1, hcq2, hsl⟩ := HO.out.isSlB
      obtain ⟨rfl, rfl⟩ : A' = some ⟨g, 0, none⟩ ∧ cap' = cap := by injection hv with a b c; exact ⟨a.symm, c.symm⟩
      rw [hlen] at hsl hcq1
      have HSL := Lib.hid hsl
      have HTD : Hid ((bt % 2 ^ k = 0 ∧ fromE (headB p ++ p') = 0) ∨ (¬ bt % 2 ^ k = 0 ∧ fromE (headB p ++ p') = 3)) := Lib.hid (by rw [htell]; by_cases h0 : bt % 2 ^ k = 0 <;> simp [h0])
      clear htell hsl hv hlen
      have hd2 : decide ((f : Int) + (k : Int) < 8 * ((8 + (N : Int)) - 8)) = false ∨ k = 32 := by
        rcases hex with h | ⟨_, h⟩
        · exact .inr h
        · exact .inl (decide_eq_false (by omega))
      rcases hex with rfl | ⟨hk3, hfk3⟩
      all_goals
        clear hlt
      all_goals
        go_wp2_with (first
          | (go_at_call 18; (with_reducible refine (imgDecode_any (some ⟨g, 0, none⟩) (8 + N) cap' (headB p ++ p') _ HSL.out hcq1 hcp2).mono ?_); rintro e w5 ⟨A5, n5, c5, rfl, _, _, _, bel5⟩; have BEL5 := Lib.hid (bel_n hbel bel5); clear bel5)
          | fail)
      all_goals go_ret
      all_goals refine ⟨?_, BEL5.out⟩
      all_goals have D := HTD.out
      all_goals try simp only [Nat.reducePow] at D
      all_goals rcases D with ⟨a, b⟩ | ⟨a, b⟩
      all_goals first | (simp [a, b]; done) | (exfalso; simp_all; done)
end Go.Proofs.Ythhpddiicnjmmaa
