/- The walk of the law CrcBursts. -/
import Derived.Test.YtmnjjmgdeiejkaaCrc3
import Derived.Test.YtmnjjmgdeiejkaaModL
namespace Go.Proofs.Ytmnjjmgdeiejkaa
open Go.RowKit

theorem own_byte {w : World} {base g n cap k : Nat} {S : Nat → Prop} {e : TypeId} {l : List UInt8} {x : UInt8} (h : Own byteRep w base S e (.slice (some ⟨g, 0, none⟩) n cap) l) (hx : l[k]? = some x) :
    w.cell? ⟨g, k, none⟩ = some (.int .u8 (x.toNat : Int)) ∧ w.frozen? ⟨g, k, none⟩ = false := by
  obtain ⟨cs, u, ⟨rfl, _⟩, hu, hc, hf⟩ := h.cellAt hx (j := 0) (by simp [byteRep, Rep.flat])
  simp at hu
  subst hu
  have e : k * byteRep.size + 0 = k := by show k * 1 + 0 = k; omega
  rw [e] at hc hf
  exact ⟨hc, hf⟩

theorem own_byte_set {w : World} {base g n cap k : Nat} {S : Nat → Prop} {e : TypeId} {l : List UInt8} {x : UInt8} (y : UInt8) (h : Own byteRep w base S e (.slice (some ⟨g, 0, none⟩) n cap) l) (hx : l[k]? = some x) :
    Own byteRep (w.setCell ⟨g, k, none⟩ (.int .u8 (y.toNat : Int))) base S e (.slice (some ⟨g, 0, none⟩) n cap) (l.set k y) := by
  have := Own.store (j := 0) (a' := y) (cs := [.int .u8 (x.toNat : Int)]) (u := .int .u8 (y.toNat : Int)) flat_byte h hx (by rintro cs ⟨rfl, _⟩; rfl) (by simp [byteRep, Rep.flat]) ⟨rfl, trivial⟩
  have e : k * byteRep.size + 0 = k := by show k * 1 + 0 = k; omega
  rw [e] at this
  exact this

theorem shr_bit (b k : Nat) (hb : b < 4294967296) : bits .and .u32 ((b : Int) / 2 ^ k) 1 = ((b / 2 ^ k % 2 : Nat) : Int) := by
  have h1 : ((b : Int) / 2 ^ k) = ((b / 2 ^ k : Nat) : Int) := by simp
  rw [h1]
  exact and_one _ (Nat.lt_of_le_of_lt (Nat.div_le_self _ _) hb)

theorem flip_bits (x : UInt8) (r : Nat) (hr : r < 8) : bits .xor .u8 (x.toNat : Int) (2 ^ r % 256) = ((flipB x r).toNat : Int) := by
  have h2 : 2 ^ r < 256 := Nat.lt_of_lt_of_le (Nat.pow_lt_pow_right (by omega) hr) (by decide)
  have h1 : (2 : Int) ^ r % 256 = ((2 ^ r : Nat) : Int) := by
    have : ((2 : Int) ^ r) = ((2 ^ r : Nat) : Int) := by simp
    rw [this]
    generalize 2 ^ r = p at h2
    omega
  rw [h1, u8_xor_nat _ _ (by have := x.toNat_lt; omega) h2, flipB_toNat x r hr]

theorem turned_some {b k : Nat} (h : b / 2 ^ k % 2 = 1) : (!(b % 2 ^ (k + 1) == 0)) = true := by
  have h1 := Nat.mod_pow_succ (b := 2) (x := b) (k := k)
  rw [h, Nat.mul_one] at h1
  have h2 := Nat.two_pow_pos k
  have : ¬ b % 2 ^ (k + 1) = 0 := by omega
  simpa using this

theorem burst_bool {a b m : Nat} (h : (a = b) ↔ m = 0) : (((a : Int) != (b : Int)) == !(m == 0)) = true := by
  by_cases hm : m = 0
  · have := h.2 hm
    subst this
    simp [hm]
  · have hab : ¬ a = b := fun e => hm (h.1 e)
    have h1 : ((a : Int) != (b : Int)) = true := by simp; omega
    have h2 : (m == 0) = false := by simpa using hm
    rw [h1, h2]
    rfl

set_option maxHeartbeats 1000000 in
theorem crcBursts_walk (w : World) (A : Option Addr) (n c : Nat) (l : List UInt8) (h : IsSl byteRep w (· < w.heap.size) A n l) (hnc : n ≤ c) (hcm : c ≤ maxLen) (at_ : Int) (_ : I64 at_) (bt : Int) (hbt : (Lit.int .u32 bt).wf = true) :
    Calls Try.prog 9 #[.slice A n c, .int .i64 at_, .int .u32 bt] w fun e w' => e = .returned (.bool true) ∧ Below w.heap.size w w' := by
  have hnm := Nat.le_trans hnc hcm
  have hs' : 0 ≤ bt ∧ bt < 4294967296 := by
    simp [Lit.wf, IntKind.min, IntKind.max, IntKind.bits, IntKind.signed] at hbt
    omega
  obtain ⟨bt, rfl⟩ := Int.eq_ofNat_of_zero_le hs'.1
  have hb32 : bt < 4294967296 := by omega
  clear hs' hbt
  by_cases hbig : n = 0 ∨ 4000 < n
  · rcases hbig with h0 | h0
    · subst h0
      go_enter Try.func9, Try.ntmps9
      go_wp2_with (go_at_call 23; (with_reducible refine (awake01_any _).mono ?_); rintro e w1 ⟨rfl, hb1⟩)
      go_ret
      exact ⟨rfl, hb1⟩
    · go_enter Try.func9, Try.ntmps9
      go_wp2_with (go_at_call 23; (with_reducible refine (awake01_any _).mono ?_); rintro e w1 ⟨rfl, hb1⟩)
      go_ret
      exact ⟨rfl, hb1⟩
  · have hn1 : 1 ≤ n := by omega
    have hn4 : n ≤ 4000 := by omega
    clear hbig
    obtain ⟨i0, hi, hz0, hz1, hz2⟩ := info_parts info_byte
    have HL := Lib.hid h.len
    have hlne : l ≠ [] := by rintro rfl; have := h.len; simp at this; omega
    have hr := modOf_range at_ (8 * (n : Int)) (by omega)
    have hw := mod_wraps at_ (8 * (n : Int)) (by omega) (by omega)
    obtain ⟨f, hf⟩ := Int.eq_ofNat_of_zero_le hr.1
    rw [hf] at hr hw
    have hf8 : f < 8 * n := by omega
    clear hf hr
    have hb0 : Below w.heap.size w (w.alloc (.cells #[] 5)) := (Below.refl _ _).alloc (Nat.le_refl _) _
    have HS := Lib.hid h
    have hne0 : ((n : Int) == 0) = false := by simp; omega
    clear h
    go_enter Try.func9, Try.ntmps9
    go_wp2_with (at_builtin; refine wpList_append_Own _ rfl (.tmp 20) (.tmp 21) 36 rfl w.heap.size 5 i0 _ 1 Try.underlying36 hi hz0 hz1 hz2 rfl (R := byteRep) (S := fun _ => False) (l := []) (l' := l) (.slice (some ⟨w.heap.size, 0, none⟩) 0 0) rfl (Own.nil _ _ _ (fun _ h => h.elim) _ _) A n c rfl ((HS.out).srcF flat_byte hb0) (by simp [maxLen]; omega) (by simp; omega) (by omega) (by simp) ?_; intro v1 w1 own1 gr1 at1; have hb1 := hb0.grown gr1 (by simp) (by intro k hk; simp [rowOf] at hk); simp only [List.nil_append] at own1; obtain ⟨g, cap, rfl, hgB, hgl, hcp1, hcp2⟩ := own1.form1 hlne; rw [← HL.out] at own1 hcp1 ⊢; have OW := Lib.hid own1; clear gr1 at1 own1)
    rw [hw]
    clear hw
    go_loopw [9, 10] (fun t i wr => ∃ (k : Nat) (l' : List UInt8), k ≤ 32 ∧ f + k ≤ 8 * n ∧ i = .int .i64 k ∧ t = .bool (!(bt % 2 ^ k == 0)) ∧ Own byteRep wr w.heap.size (fun _ => False) 5 (.slice (some ⟨g, 0, none⟩) n cap) l' ∧ Turned l l' f bt k ∧ Below w.heap.size w wr) (fun _ i _ => 32 - (intOf i).toNat)
    case atStart => exact ⟨0, l, by omega, by omega, rfl, by simp [Nat.mod_one], OW.out, turned_zero l f bt, hb1⟩
    case round =>
      obtain ⟨k, l', hk, hfk, rfl, rfl, hown, htu, hbel⟩ := hrel
      have HO := Lib.hid hown
      have HT := Lib.hid htu
      clear hown htu
      by_cases hlt : k < 32 ∧ f + k < 8 * n
      · obtain ⟨hk32, hfk2⟩ := hlt
        have hq : (f + k) / 8 < l'.length := by rw [(HT.out).1, ← HL.out]; omega
        obtain ⟨x, hx⟩ : ∃ x, l'[(f + k) / 8]? = some x := ⟨_, List.getElem?_eq_getElem hq⟩
        obtain ⟨hcell, hfroz⟩ := own_byte HO.out hx
        have hbit := shr_bit bt k hb32
        have hfl := flip_bits x ((f + k) % 8) (Nat.mod_lt _ (by omega))
        have HX := Lib.hid hx
        clear hx hfk hk hq
        rcases Nat.mod_two_eq_zero_or_one (bt / 2 ^ k) with hb | hb
        · rw [hb] at hbit
          have HB := Lib.hid hb
          clear hb
          go_wp2
          go_roundw
          case rel => exact ⟨k + 1, l', by omega, by omega, by go_num, by rw [mod_pow_succ, HB.out, Nat.zero_mul, Nat.xor_zero], HO.out, turned_skip HT.out HB.out, hbel⟩
          case measure => simp [intOf]; omega
        · rw [hb] at hbit
          have HB := Lib.hid hb
          clear hb
          go_wp2
          go_roundw
          case rel => exact ⟨k + 1, l'.set ((f + k) / 8) (flipB x ((f + k) % 8)), by omega, by omega, by go_num, by rw [turned_some HB.out], by first | exact own_byte_set _ HO.out HX.out | (rw [hfl]; exact own_byte_set _ HO.out HX.out), turned_flip HT.out HB.out HX.out (by rw [← HL.out]; exact hfk2), hbel.setCell hgB _⟩
          case measure => simp [intOf]; omega
      · have hex : k = 32 ∨ (k < 32 ∧ f + k = 8 * n) := by omega
        have htell := turned_tells HT.out hk
        have HTL := Lib.hid htell
        obtain ⟨h1m, h2m⟩ : l'.length = n ∧ n ≤ cap := ⟨by rw [(HT.out).1, HL.out], hcp1⟩
        obtain ⟨A', cap', hv, hcq1, hcq2, hsl⟩ := (HO.out).isSl (S' := (· < wr.heap.size)) (fun _ h => h.elim) (fun _ _ h => h)
        obtain ⟨rfl, rfl⟩ : A' = some ⟨g, 0, none⟩ ∧ cap' = cap := by injection hv with a b c; exact ⟨a.symm, c.symm⟩
        rw [h1m] at hsl
        have HSL := Lib.hid hsl
        clear htell hsl hv hcq1 h1m
        rcases hex with rfl | ⟨hk3, hfk3⟩
        all_goals
          clear hlt
          go_wp2_with (first
            | (go_at_call 23; (with_reducible refine (awake01_any _).mono ?_); rintro e w5 ⟨rfl, hb5⟩; have hz5 := hb5.size; have hbw5 : Below w.heap.size w w5 := hbel.trans (hb5.mono hbel.size); have hsl5 := Lib.hid ((HS.out).below hbw5); have hb6 : Below wr.heap.size wr (w5.alloc (.cells #[.slice A n c] 36)) := hb5.alloc hz5 _; have hsl6 := Lib.hid ((HSL.out).below hb6))
            | (go_at_call 24; (with_reducible refine (sum1_any (by simp) hsl5.out hnc hcm (fun b hb => Nat.lt_of_lt_of_le hb hbw5.size)).mono ?_); rintro e w' ⟨rfl, rfl⟩)
            | (go_at_call 24; (with_reducible refine (sum1_any (by simp) hsl6.out h2m hcp2 (fun b hb => Nat.lt_of_lt_of_le hb hb6.size)).mono ?_); rintro e w' ⟨rfl, rfl⟩))
          go_ret
          exact ⟨congrArg (fun b => Ending.returned (.bool b)) (burst_bool HTL.out), hbel.trans ((hb6.alloc hb6.size _).mono hbel.size)⟩
end Go.Proofs.Ytmnjjmgdeiejkaa
