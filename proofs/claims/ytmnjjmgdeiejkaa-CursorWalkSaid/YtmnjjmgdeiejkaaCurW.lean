/- The walk of the law CursorWalk. -/
import Derived.Test.YtmnjjmgdeiejkaaRowL
import Derived.Test.YtmnjjmgdeiejkaaCur2
import Derived.Deep.RegionHeld3
namespace Go.Proofs.Ytmnjjmgdeiejkaa
open Go.RowKit

/-- Where the reading of chunks stands. -/
def ChunkAt (L : List Row) (k : Nat) (after seen chunks : Int) (last : Bool) : Prop :=
  (last = false ∧ ∃ j : Nat, j * k ≤ L.length ∧ after = lastKey (L.take (j * k)) 0 ∧ seen = ((j * k : Nat) : Int) ∧ chunks = (j : Int)) ∨
  (last = true ∧ seen = (L.length : Int) ∧ chunks = leftOf (L.length : Int) (k : Int))

theorem chunkAt_next {L C : List Row} {k j s0 : Nat} {a1 mm : Int} (hs0 : s0 = j * k) (hCl : C.length = min k (L.length - s0)) (hj1 : s0 ≤ L.length) (ha1 : a1 = lastKey (L.take (j * k + k)) 0) (h1 : 1 ≤ k) (hL : L.length ≤ 60) (hk : 1 + mm = (k : Int)) :
    ChunkAt L k a1 ((s0 : Int) + (C.length : Int)) ((j : Int) + 1) (decide ((C.length : Int) < 1 + mm)) := by
  rw [hk]
  have e : (j + 1) * k = j * k + k := by rw [Nat.add_mul, Nat.one_mul]
  by_cases h : C.length < k
  · right
    refine ⟨by simp; omega, by omega, ?_⟩
    rw [leftOf_last (j := j) h1 (by omega) (by omega) (by omega)]
  · left
    refine ⟨by simp; omega, j + 1, by omega, by rw [e]; exact ha1, by rw [e]; omega, by omega⟩

set_option maxHeartbeats 1000000 in
theorem cursorWalk_walk (w : World) (A : Option Addr) (n c : Nat) (l : List Row) (h : IsSl rowRep w (· < w.heap.size) A n l) (_ : n ≤ c) (_ : c ≤ maxLen) (m : Int) (_ : I64 m) :
    Calls Try.prog 4 #[.slice A n c, .int .i64 m] w fun e w' => e = .returned (.bool true) ∧ Below w.heap.size w w' := by
  have HL := Lib.hid h.len
  have hm9 := modOf_range m 9 (by omega)
  go_enter Try.func4, Try.ntmps4
  go_wp2_with fail
  go_loopw [5, 6] (fun v i wr => ∃ p : Nat, i = .int .i64 p ∧ p ≤ n ∧ p ≤ 60 ∧ Own rowRep wr w.heap.size (fun _ => False) 32 v (walked (l.take p)) ∧ Below w.heap.size w wr) (fun _ i _ => n - (intOf i).toNat)
  case atStart => exact ⟨0, rfl, Nat.zero_le _, by omega, by simpa [walked] using Own.nil (R := rowRep) w w.heap.size (fun _ => False) (fun _ h => h.elim) _ none, Below.refl _ _⟩
  case round =>
    obtain ⟨p, rfl, hpn, hp60, hown, hbel⟩ := hrel
    obtain ⟨hrise, hwl⟩ := walked_rise (l.take p)
    have hpl : (l.take p).length ≤ p := List.length_take_le _ _
    obtain ⟨A', cap, rfl, hcap1, hcap2, hsl⟩ := hown.isSl (S' := (· < wr.heap.size)) (fun _ h => h.elim) (fun _ _ h => h)
    have HO := Lib.hid hown
    have HSL := Lib.hid (show IsSl rowRep wr.drew (· < wr.drew.heap.size) A' (walked (l.take p)).length (walked (l.take p)) from hsl.keep fun _ _ => rfl)
    clear hown hsl
    by_cases hlt : p < n ∧ p < 60
    · obtain ⟨hlt, hlt60⟩ := hlt
      obtain ⟨b, off, x, cs, rfl, hbS, hx, ⟨rfl, hwf⟩, hc⟩ := h.at_ hlt
      have hc0 : wr.cell? ⟨b, off + p * 2, none⟩ = some (.int .i64 x.key) := (hbel.cell hbS).trans (hc 0 _ rfl)
      have hc1 : wr.cell? ⟨b, off + p * 2 + 1, none⟩ = some (.string x.val) := (hbel.cell hbS).trans (hc 1 _ rfl)
      have hmk := modOf_range x.key 1000 (by omega)
      have HX := Lib.hid hx
      have hvl : x.val.size ≤ maxLen := hwf.2
      have hbS2 : b < wr.drew.heap.size := Nat.lt_of_lt_of_le hbS hbel.size
      have hlen6 : (walked (l.take p)).length ≤ 1000000 := by omega
      have hI : I64 (1 + modOf x.key 1000) := by unfold I64; omega
      have h1000 : (0 : Int) < 1000 := by omega
      have h1001 : (1000 : Int) ≤ 9223372036854775807 := by omega
      have hwr : IntKind.i64.wrap (1 + modOf x.key 1000) = 1 + modOf x.key 1000 := IntWalk.i64_in _ ⟨by omega, by omega⟩
      clear hc h hx
      go_wp2_with fail
      go_region_held3 (fun w' => w'.cell? ⟨b, off + p * 2, none⟩ = some (.int .i64 x.key) ∧ w'.cell? ⟨b, off + p * 2 + 1, none⟩ = some (.string x.val)) (first | exact ⟨hc0, hc1⟩ | exact ⟨(bel2.cell hbS2).trans hc0, (bel2.cell hbS2).trans hc1⟩)
        (first | (go_at_call 21; (with_reducible refine (big_any x.key 1000 _ h1000 h1001).mono ?_); rintro e w' ⟨rfl, rfl⟩)
               | (go_at_call 20; (with_reducible refine (put_any A' _ cap (walked (l.take p)) (1 + modOf x.key 1000) x.val _ HSL.out hlen6 hcap1 hcap2 hI hvl).mono ?_); rintro e w' ⟨v2, rfl, own2, bel2⟩))
      clear hwr
      go_wp2
      go_roundw
      case rel =>
        obtain ⟨p1, hp1⟩ : ∃ p1, p1 = p + 1 := ⟨_, rfl⟩
        have hw : walked (l.take (p + 1)) = putL (walked (l.take p)) (1 + modOf x.key 1000) x.val := by
          have hx := HX.out
          have hpl2 : p < l.length := by rw [← HL.out]; exact hlt
          rw [List.take_succ_eq_append_getElem hpl2, walked_snoc]
          rw [List.getElem?_eq_getElem hpl2] at hx
          rw [Option.some.inj hx]
        refine ⟨p + 1, by go_num, by omega, by omega, ?_, hbel.trans (Below.mono (B := wr.drew.heap.size) (w := wr) ⟨bel2.os, bel2.tape, bel2.output, bel2.size, bel2.block⟩ hbel.size)⟩
        rw [hw]
        exact own2.mono hbel.size
      case measure => simp [intOf]; omega
    · obtain ⟨wo, rfl⟩ : ∃ wo : World, wo = wr := ⟨_, rfl⟩
      obtain ⟨L, hL⟩ : ∃ L, L = walked (l.take p) := ⟨_, rfl⟩
      rw [← hL] at hrise hwl HO HSL
      have hsl0 : IsSl rowRep wo (· < wo.heap.size) A' L.length L := HSL.out.keep fun _ _ => rfl
      have HS0 := Lib.hid hsl0
      have HR := Lib.hid hrise
      have hL60 : L.length ≤ 60 := by omega
      rw [← hL] at hcap1
      simp only [← hL]
      clear hsl0 hrise hwl hpl HSL HO hL
      have hor : n ≤ p ∨ (p < n ∧ 60 ≤ p) := by omega
      have hI9 : I64 (1 + modOf m 9) := by unfold I64; omega
      rcases hor with hge | ⟨hlt1, hge⟩
      all_goals
        clear hlt
        go_wp2_with (first
          | (go_at_call 19; (with_reducible refine (mod_any _ _ _ (by omega) (by omega)).mono ?_); rintro e w' ⟨rfl, rfl⟩)
          | (go_at_call 17; (with_reducible refine (left_any _ _ _ (by omega)).mono ?_); rintro e w' ⟨rfl, rfl⟩))
        go_loopw [9, 10, 11, 12] (fun a s ch la wr => ∃ (after seen chunks : Int) (last : Bool), a = .int .i64 after ∧ s = .int .i64 seen ∧ ch = .int .i64 chunks ∧ la = .bool last ∧ ChunkAt L (1 + modOf m 9).toNat after seen chunks last ∧ Below wo.heap.size wo wr) (fun _ _ ch _ _ => 100 - (intOf ch).toNat)
        case atStart => exact ⟨0, 0, 0, false, rfl, rfl, rfl, rfl, .inl ⟨rfl, 0, by omega, by simp [lastKey_nil], by simp, rfl⟩, Below.refl _ _⟩
        case round =>
          obtain ⟨after, seen, chunks, last, rfl, rfl, rfl, rfl, hat, hbel5⟩ := hrel
          have hbelW : Below w.heap.size w wr := hbel.trans (hbel5.mono hbel.size)
          rcases hat with ⟨rfl, j, hj1, rfl, rfl, rfl⟩ | ⟨rfl, rfl, rfl⟩
          · obtain ⟨k, hk⟩ : ∃ k : Nat, 1 + modOf m 9 = k := ⟨(1 + modOf m 9).toNat, by omega⟩
            have hk1 : 1 ≤ k := by omega
            have hk9 : k ≤ 9 := by omega
            have hkt : (1 + modOf m 9).toNat = k := by omega
            rw [hkt] at hj1
            obtain ⟨g1, g2, g3, g4⟩ := chunk_step (l := L) (k := k) (m := j * k) HR.out
            have hj60 : j ≤ 60 := by
              have : j * 1 ≤ j * k := Nat.mul_le_mul_left _ hk1
              omega
            obtain ⟨C, hC⟩ : ∃ C, C = afterL L (lastKey (L.take (j * k)) 0) k := ⟨_, rfl⟩
            have hCl : C.length = min k (L.length - j * k) := by rw [hC, g1, g4]
            have hCk : lastKey C (lastKey (L.take (j * k)) 0) = lastKey (L.take (j * k + k)) 0 := by rw [hC, g1, g2]
            obtain ⟨a0, ha0⟩ : ∃ a0, a0 = lastKey (L.take (j * k)) 0 := ⟨_, rfl⟩
            obtain ⟨a1, ha1⟩ : ∃ a1, a1 = lastKey (L.take (j * k + k)) 0 := ⟨_, rfl⟩
            obtain ⟨s0, hs0⟩ : ∃ s0 : Nat, s0 = j * k := ⟨_, rfl⟩
            have hs60 : s0 ≤ 60 := by omega
            have hC9 : C.length ≤ 9 := by omega
            rw [← ha0, ← ha1] at g3
            rw [← ha0] at hC
            rw [← ha0, ← ha1] at hCk
            rw [hkt, ← ha0, ← hs0]
            rw [← hs0] at hCl hj1
            have HC := Lib.hid hC
            have HCK := Lib.hid hCk
            have HK := Lib.hid hk
            have HKT := Lib.hid hkt
            have HA0 := Lib.hid ha0
            have HA1 := Lib.hid ha1
            have HSS := Lib.hid hs0
            have HCL := Lib.hid hCl
            have hIs := Lib.hid ((HS0.out).below hbel5 |>.more hbel5.size)
            have hL6 : L.length ≤ 1000000 := by omega
            have h1m : 0 ≤ 1 + modOf m 9 := by omega
            have h2m : 1 + modOf m 9 ≤ 1000000 := by omega
            have HB5 := Lib.hid hbel5
            clear g1 g2 g4 hC hCk hk hkt ha0 ha1 hs0 hCl hbel5
            go_wp2_with (first
              | (go_at_call 22; (with_reducible refine (after_any A' L.length cap L a0 (1 + modOf m 9) wr hIs.out hL6 h1m h2m).mono ?_); rintro e w6 ⟨v6, rfl, own6, bel6⟩; rw [HKT.out, ← HC.out] at own6; obtain ⟨A6, cap6, rfl, hc61, hc62, sl6⟩ := own6.isSl (S' := (· < w6.heap.size)) (fun _ h => h.elim) (fun _ _ h => h); have SL6 := Lib.hid sl6; have hm6 : C.length ≤ maxLen := Nat.le_trans hc61 hc62; clear own6 sl6)
              | (go_at_call 14; (with_reducible refine (plan_any A6 C.length cap6 C a0 (1 + modOf m 9) w6 _ SL6.out hm6).mono ?_); rintro e w7 ⟨rfl, rfl⟩; rw [HCK.out]))
            go_roundw
            case rel => exact ⟨_, _, _, _, rfl, rfl, rfl, rfl, chunkAt_next HSS.out HCL.out hj1 HA1.out hk1 hL60 HK.out, (HB5.out).trans (bel6.mono (HB5.out).size)⟩
            case measure => simp [intOf]; omega
          · have HC := Lib.hid (show leftOf (L.length : Int) ((1 + modOf m 9).toNat : Int) = leftOf (L.length : Int) (1 + modOf m 9) by rw [Int.toNat_of_nonneg (by omega)])
            rw [HC.out]
            go_wp2_with (go_at_call 16; (with_reducible refine (awake25_any _).mono ?_); rintro e w8 ⟨rfl, hb8⟩)
            go_ret
            exact ⟨rfl, hbelW.trans (hb8.mono hbelW.size)⟩

end Go.Proofs.Ytmnjjmgdeiejkaa
