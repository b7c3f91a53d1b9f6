/- The sum over bytes: contracts of crc.step, crc.More, crc.Sum and of the reference's More and Sum. -/
import Derived.Test.YthhpddiicnjmmaaPlain
import Derived.Lib.Hide
namespace Go.Proofs.Ythhpddiicnjmmaa
open Go.RowKit

/-- One bit. -/
def shC (c : Nat) : Nat := if c % 2 = 1 then (c / 2) ^^^ 3988292384 else c / 2

/-- So many bits. -/
def shN : Nat → Nat → Nat
  | 0, c => c
  | n + 1, c => shC (shN n c)

/-- One byte. -/
def stepC (c : Nat) (b : UInt8) : Nat := shN 8 (c ^^^ b.toNat)

/-- The bytes behind a sum. -/
def moreC (s : Nat) (l : List UInt8) : Nat := (l.foldl stepC (4294967295 ^^^ s)) ^^^ 4294967295

/-- The sum of all parts. -/
def sumC (L : List (List UInt8)) : Nat := L.foldl moreC 0

theorem shC_lt (c : Nat) (h : c < 4294967296) : shC c < 4294967296 := by
  unfold shC
  split
  · exact Nat.xor_lt_two_pow (n := 32) (by omega) (by omega)
  · omega

theorem shN_lt : ∀ (n c : Nat), c < 4294967296 → shN n c < 4294967296
  | 0, _, h => h
  | n + 1, c, h => shC_lt _ (shN_lt n c h)

theorem u8_lt (b : UInt8) : b.toNat < 256 := by have := b.toNat_lt; omega

theorem stepC_lt (c : Nat) (b : UInt8) (h : c < 4294967296) : stepC c b < 4294967296 :=
  shN_lt _ _ (Nat.xor_lt_two_pow (n := 32) (by omega) (by have := u8_lt b; omega))

theorem foldC_lt : ∀ (l : List UInt8) (c : Nat), c < 4294967296 → l.foldl stepC c < 4294967296
  | [], _, h => h
  | b :: l, c, h => foldC_lt l _ (stepC_lt c b h)

theorem moreC_lt (s : Nat) (l : List UInt8) (h : s < 4294967296) : moreC s l < 4294967296 :=
  Nat.xor_lt_two_pow (n := 32) (foldC_lt l _ (Nat.xor_lt_two_pow (n := 32) (by omega) (by omega))) (by omega)

theorem sumC_lt : ∀ (L : List (List UInt8)) (s : Nat), s < 4294967296 → L.foldl moreC s < 4294967296
  | [], _, h => h
  | b :: l, c, h => sumC_lt l _ (moreC_lt c b h)

theorem and_one (c : Nat) (h : c < 4294967296) : bits .and .u32 (c : Int) 1 = ((c % 2 : Nat) : Int) := by
  have := u32_and_nat c 1 h (by omega)
  rw [Nat.and_one_is_mod] at this
  exact this

theorem xor_poly (c : Nat) (h : c < 4294967296) : bits .xor .u32 ((c : Int) / 2) 3988292384 = ((c / 2 ^^^ 3988292384 : Nat) : Int) := by
  have := u32_xor_nat (c / 2) 3988292384 (by omega) (by omega)
  rw [← this]
  simp

set_option maxHeartbeats 400000 in
theorem step_any (c : Nat) (b : UInt8) (w : World) (hc : c < 4294967296) :
    Calls Try.prog 166 #[.int .u32 (c : Int), .int .u8 (b.toNat : Int)] w fun e w' => e = .returned (.int .u32 (stepC c b : Int)) ∧ w = w' := by
  have hb := u8_lt b
  have hx : bits .xor .u32 (c : Int) (b.toNat : Int) = ((c ^^^ b.toNat : Nat) : Int) := u32_xor_nat c b.toNat hc (by omega)
  have hlt : c ^^^ b.toNat < 4294967296 := Nat.xor_lt_two_pow (n := 32) hc (by omega)
  obtain ⟨d, hd⟩ : ∃ d, d = c ^^^ b.toNat := ⟨_, rfl⟩
  have HS := Lib.hid (show stepC c b = shN 8 d by rw [hd]; rfl)
  rw [← hd] at hx hlt
  rw [HS.out]
  clear hd
  go_enter Try.func166, Try.ntmps166
  go_wp2
  go_loop [0, 10] (fun u i => ∃ k : Nat, k ≤ 8 ∧ i = .int .i64 k ∧ u = .int .u32 (shN k d : Int)) (fun _ i => 8 - (intOf i).toNat)
  case atStart => exact ⟨0, by omega, rfl, rfl⟩
  case round =>
    obtain ⟨k, hk, rfl, rfl⟩ := hrel
    have hx2 := shN_lt k d hlt
    obtain ⟨y, hy⟩ : ∃ y, y = shN k d := ⟨_, rfl⟩
    have HY := Lib.hid (show shN (k + 1) d = shC y by rw [hy]; rfl)
    rw [← hy] at hx2 ⊢
    have HYY := Lib.hid hy
    have ha := and_one y hx2
    have hp := xor_poly y hx2
    clear hy hx
    by_cases h8 : k < 8
    · by_cases hodd : y % 2 = 1
      · have HO := Lib.hid (show shC y = y / 2 ^^^ 3988292384 by unfold shC; rw [if_pos hodd])
        rw [hodd] at ha
        clear hodd
        go_wp2
        go_round
        case rel => exact ⟨k + 1, by omega, by go_num, by first | (rw [HY.out, HO.out]; done) | (rw [HY.out, HO.out]; exact congrArg (Value.int .u32) hp)⟩
        case measure => simp [intOf]; omega
      · have HO := Lib.hid (show shC y = y / 2 by unfold shC; rw [if_neg hodd])
        rw [show y % 2 = 0 by omega] at ha
        clear hodd
        go_wp2
        go_round
        case rel => exact ⟨k + 1, by omega, by go_num, by rw [HY.out, HO.out]; simp⟩
        case measure => simp [intOf]; omega
    · obtain rfl : k = 8 := by omega
      go_wp2
      go_ret
      exact ⟨by rw [HYY.out]; rfl, rfl⟩

theorem not_u32 (c : Nat) (h : c < 4294967296) : bits .xor .u32 4294967295 (c : Int) = ((4294967295 ^^^ c : Nat) : Int) := u32_xor_nat 4294967295 c (by omega) h

set_option maxHeartbeats 400000 in
theorem more_any (s : Nat) (A : Option Addr) (n c : Nat) (l : List UInt8) (w : World) (S : Nat → Prop) (hs : s < 4294967296) (h : IsSl byteRep w S A n l) (hm : n ≤ maxLen) :
    Calls Try.prog 160 #[.int .u32 (s : Int), .slice A n c] w fun e w' => e = .returned (.int .u32 (moreC s l : Int)) ∧ w = w' := by
  unfold maxLen at hm
  have hsg : IntKind.u32.signed = false := rfl
  have hmx : IntKind.u32.max = 4294967295 := by decide
  have hn := not_u32 s hs
  have h0 : 4294967295 ^^^ s < 4294967296 := Nat.xor_lt_two_pow (n := 32) (by omega) (by omega)
  obtain ⟨d, hd⟩ : ∃ d, d = 4294967295 ^^^ s := ⟨_, rfl⟩
  have HD := Lib.hid (show moreC s l = (l.foldl stepC d) ^^^ 4294967295 by rw [hd]; rfl)
  have HL := Lib.hid h.len
  rw [← hd] at hn h0
  rw [HD.out]
  clear hd
  go_enter Try.func160, Try.ntmps160
  go_wp2
  go_loop [5, 12] (fun u i => ∃ k : Nat, k ≤ n ∧ i = .int .i64 k ∧ u = .int .u32 (((l.take k).foldl stepC d : Nat) : Int)) (fun _ i => n - (intOf i).toNat)
  case atStart => exact ⟨0, Nat.zero_le _, rfl, rfl⟩
  case round =>
    obtain ⟨k, hk, rfl, rfl⟩ := hrel
    have hx2 := foldC_lt (l.take k) d h0
    obtain ⟨y, hy⟩ : ∃ y, y = (l.take k).foldl stepC d := ⟨_, rfl⟩
    rw [← hy] at hx2 ⊢
    have HY := Lib.hid hy
    clear hy hn
    by_cases hlt : k < n
    · obtain ⟨b, off, x, cs, rfl, hbS, hx, ⟨rfl, _⟩, hc⟩ := h.at_ hlt
      have hc0 : w.cell? ⟨b, off + k, none⟩ = some (.int .u8 (x.toNat : Int)) := by have := hc 0 _ rfl; simpa [byteRep, Rep.flat] using this
      have HX := Lib.hid hx
      clear hc hx h
      go_wp2_with (go_at_call 166; (with_reducible refine (step_any y x _ hx2).mono ?_); rintro e w' ⟨rfl, rfl⟩)
      go_round
      case rel =>
        have hkl : k < l.length := by rw [← HL.out]; exact hlt
        have e1 : l[k] = x := by have := HX.out; rw [List.getElem?_eq_getElem hkl] at this; exact Option.some.inj this
        exact ⟨k + 1, by omega, by go_num, by rw [List.take_succ_eq_append_getElem hkl, List.foldl_append, ← HY.out, e1]; rfl⟩
      case measure => simp [intOf]; omega
    · have hge : n ≤ k := by omega
      have hn2 := not_u32 y hx2
      go_wp2
      go_ret
      exact ⟨by rw [HY.out, List.take_of_length_le (by rw [← HL.out]; exact hge), Nat.xor_comm]; rfl, rfl⟩

theorem foldl_take_succ {α β : Type} {f : β → α → β} {l : List α} {k : Nat} {x : α} {z : β} (hx : l[k]? = some x) : (l.take (k + 1)).foldl f z = f ((l.take k).foldl f z) x := by
  have hk : k < l.length := (List.getElem?_eq_some_iff.1 hx).1
  rw [List.getElem?_eq_getElem hk] at hx
  rw [List.take_succ_eq_append_getElem hk, List.foldl_append, Option.some.inj hx]
  rfl

set_option maxHeartbeats 800000 in
theorem refmore_any (s : Nat) (A : Option Addr) (n c : Nat) (l : List UInt8) (w : World) (S : Nat → Prop) (hs : s < 4294967296) (h : IsSl byteRep w S A n l) (hm : n ≤ maxLen) :
    Calls Try.prog 120 #[.int .u32 (s : Int), .slice A n c] w fun e w' => e = .returned (.int .u32 (moreC s l : Int)) ∧ w = w' := by
  unfold maxLen at hm
  have hsg : IntKind.u32.signed = false := rfl
  have hmx : IntKind.u32.max = 4294967295 := by decide
  have hn := not_u32 s hs
  have h0 : 4294967295 ^^^ s < 4294967296 := Nat.xor_lt_two_pow (n := 32) (by omega) (by omega)
  obtain ⟨d, hd⟩ : ∃ d, d = 4294967295 ^^^ s := ⟨_, rfl⟩
  have HD := Lib.hid (show moreC s l = (l.foldl stepC d) ^^^ 4294967295 by rw [hd]; rfl)
  have HL := Lib.hid h.len
  rw [← hd] at hn h0
  rw [HD.out]
  clear hd
  go_enter Try.func120, Try.ntmps120
  go_wp2
  go_loop [5, 6, 7, 8] (fun u i _ _ => ∃ k : Nat, k ≤ n ∧ i = .int .i64 k ∧ u = .int .u32 (((l.take k).foldl stepC d : Nat) : Int)) (fun _ i _ _ => n - (intOf i).toNat)
  case atStart => exact ⟨0, Nat.zero_le _, rfl, rfl⟩
  case round =>
    obtain ⟨k, hk, rfl, rfl⟩ := hrel
    have hx2 := foldC_lt (l.take k) d h0
    obtain ⟨y, hy⟩ : ∃ y, y = (l.take k).foldl stepC d := ⟨_, rfl⟩
    rw [← hy] at hx2 ⊢
    have HY := Lib.hid hy
    clear hy hn
    by_cases hlt : k < n
    · obtain ⟨b, off, x, cs, rfl, hbS, hx, ⟨rfl, _⟩, hc⟩ := h.at_ hlt
      have hc0 : w.cell? ⟨b, off + k, none⟩ = some (.int .u8 (x.toNat : Int)) := by have := hc 0 _ rfl; simpa [byteRep, Rep.flat] using this
      have HX := Lib.hid hx
      have hb8 := u8_lt x
      have hxx : bits .xor .u32 (y : Int) (x.toNat : Int) = ((y ^^^ x.toNat : Nat) : Int) := u32_xor_nat y x.toNat hx2 (by omega)
      have hlt2 : y ^^^ x.toNat < 4294967296 := Nat.xor_lt_two_pow (n := 32) hx2 (by omega)
      obtain ⟨t, ht⟩ : ∃ t, t = y ^^^ x.toNat := ⟨_, rfl⟩
      rw [← ht] at hxx hlt2
      have HT := Lib.hid (show stepC y x = shN 8 t by rw [ht]; rfl)
      clear hc hx h ht
      go_wp2
      go_loop [5, 7, 8] (fun u j _ => ∃ q : Nat, q ≤ 8 ∧ j = .int .i64 q ∧ u = .int .u32 (shN q t : Int)) (fun _ j _ => 8 - (intOf j).toNat)
      case atStart => exact ⟨0, by omega, rfl, rfl⟩
      case round =>
        obtain ⟨q, hq, rfl, rfl⟩ := hrel
        have hx3 := shN_lt q t hlt2
        obtain ⟨z, hz⟩ : ∃ z, z = shN q t := ⟨_, rfl⟩
        have HZ := Lib.hid (show shN (q + 1) t = shC z by rw [hz]; rfl)
        rw [← hz] at hx3 ⊢
        have HZZ := Lib.hid hz
        have ha := and_one z hx3
        have hp := xor_poly z hx3
        clear hz hxx
        by_cases h8 : q < 8
        · by_cases hodd : z % 2 = 1
          · have HO := Lib.hid (show shC z = z / 2 ^^^ 3988292384 by unfold shC; rw [if_pos hodd])
            rw [hodd] at ha
            clear hodd
            go_wp2
            go_round
            case rel => exact ⟨q + 1, by omega, by go_num, by first | (rw [HZ.out, HO.out]; done) | (rw [HZ.out, HO.out]; exact congrArg (Value.int .u32) hp)⟩
            case measure => simp [intOf]; omega
          · have HO := Lib.hid (show shC z = z / 2 by unfold shC; rw [if_neg hodd])
            rw [show z % 2 = 0 by omega] at ha
            clear hodd
            go_wp2
            go_round
            case rel => exact ⟨q + 1, by omega, by go_num, by rw [HZ.out, HO.out]; simp⟩
            case measure => simp [intOf]; omega
        · obtain rfl : q = 8 := by omega
          go_wp2
          go_round
          case rel => exact ⟨k + 1, by omega, by go_num, by rw [foldl_take_succ HX.out, ← HY.out, HT.out, HZZ.out]⟩
          case measure => simp [intOf]; omega
    · have hge : n ≤ k := by omega
      have hn2 := not_u32 y hx2
      go_wp2
      go_ret
      exact ⟨by rw [HY.out, List.take_of_length_le (by rw [← HL.out]; exact hge), Nat.xor_comm]; rfl, rfl⟩
end Go.Proofs.Ythhpddiicnjmmaa
