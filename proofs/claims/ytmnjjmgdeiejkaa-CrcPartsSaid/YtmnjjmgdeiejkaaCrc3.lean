/- The walk of the law CrcParts. -/
import Derived.Test.YtmnjjmgdeiejkaaCrc2
import Derived.Test.YtmnjjmgdeiejkaaCrcL
namespace Go.Proofs.Ytmnjjmgdeiejkaa
open Go.RowKit

theorem info_byte : (Try.prog.info? 5).map (fun i => (i.zero, i.size, i.bytes)) = some (some (.int .u8 0), 1, 1) := by kernel_rfl

theorem flatten_take_succ {α : Type} {L : List (List α)} {k : Nat} {x : List α} (hx : L[k]? = some x) : (L.take (k + 1)).flatten = (L.take k).flatten ++ x := by
  have hk : k < L.length := (List.getElem?_eq_some_iff.1 hx).1
  rw [List.getElem?_eq_getElem hk] at hx
  rw [List.take_succ_eq_append_getElem hk, List.flatten_append, Option.some.inj hx]
  simp

set_option maxHeartbeats 1000000 in
theorem crcParts_walk (w : World) (A : Option Addr) (n c : Nat) (L : List (List UInt8)) (h : IsSl (sliceRep byteRep) w (· < w.heap.size) A n L) (hnc : n ≤ c) (hcm : c ≤ maxLen) :
    Calls Try.prog 8 #[.slice A n c] w fun e w' => e = .returned (.bool true) ∧ Below w.heap.size w w' := by
  have hnm := Nat.le_trans hnc hcm
  by_cases hbig : 200 < n
  · go_enter Try.func8, Try.ntmps8
    go_wp2_with (go_at_call 23; (with_reducible refine (awake01_any _).mono ?_); rintro e w1 ⟨rfl, hb1⟩)
    go_ret
    exact ⟨rfl, hb1⟩
  · have hn200 : n ≤ 200 := by omega
    obtain ⟨i0, hi, hz0, hz1, hz2⟩ := info_parts info_byte
    have HL := Lib.hid h.len
    clear hbig
    go_enter Try.func8, Try.ntmps8
    go_wp2
    go_loopw [2, 3, 4, 5] (fun _ v u i wr => ∃ k : Nat, k ≤ n ∧ i = .int .i64 k ∧ u = .int .u32 (((L.take k).foldl moreC 0 : Nat) : Int) ∧ Own byteRep wr w.heap.size (fun _ => False) 5 v (L.take k).flatten ∧ (L.take k).flatten.length ≤ 4000 * k ∧ Below w.heap.size w wr) (fun _ _ _ i _ => n - (intOf i).toNat)
    case atStart => exact ⟨0, Nat.zero_le _, rfl, rfl, by simpa using Own.nil (R := byteRep) w w.heap.size (fun _ => False) (fun _ h => h.elim) _ none, by simp, Below.refl _ _⟩
    case round =>
      obtain ⟨k, hk, rfl, rfl, hown, hfl, hbel⟩ := hrel
      have hx2 := sumC_lt (L.take k) 0 (by omega)
      obtain ⟨y, hy⟩ : ∃ y, y = (L.take k).foldl moreC 0 := ⟨_, rfl⟩
      rw [← hy] at hx2 ⊢
      have HY := Lib.hid hy
      obtain ⟨F, hF⟩ : ∃ F, F = (L.take k).flatten := ⟨_, rfl⟩
      rw [← hF] at hown hfl
      have HFF := Lib.hid hF
      clear hF
      obtain ⟨A', cap, rfl, hcp1, hcp2, hsl⟩ := hown.isSl (S' := (· < wr.heap.size)) (fun _ h => h.elim) (fun _ _ h => h)
      have HO := Lib.hid hown
      have HSL := Lib.hid hsl
      clear hy hown hsl
      by_cases hlt : k < n
      · obtain ⟨b, off, x, cs, rfl, hbS, hx, ⟨A2, n2, c2, rfl, h2, h3, h4⟩, hc⟩ := h.at_ hlt
        have hc0 : wr.cell? ⟨b, off + k, none⟩ = some (.slice A2 n2 c2) := (hbel.cell hbS).trans (by have := hc 0 _ rfl; simpa [sliceRep] using this)
        have HX := Lib.hid hx
        have H2 := Lib.hid h2
        have hn2 : n2 ≤ maxLen := Nat.le_trans h3 h4
        have HF := Lib.hid (flatten_take_succ hx)
        have HN2 := Lib.hid h2.len
        clear hc hx h h2
        by_cases hbg : 4000 < n2
        · go_wp2_with (go_at_call 23; (with_reducible refine (awake01_any _).mono ?_); rintro e w1 ⟨rfl, hb1⟩)
          go_ret
          exact ⟨rfl, hbel.trans (hb1.mono hbel.size)⟩
        · have hn4 : n2 ≤ 4000 := by omega
          clear hbg
          go_wp2_with (first
            | (at_builtin; refine wpList_append_Own _ rfl (.tmp 23) (.tmp 27) 36 rfl w.heap.size 5 i0 _ 1 Try.underlying36 hi hz0 hz1 hz2 rfl (R := byteRep) (S := fun _ => False) (l' := x) (.slice A' F.length cap) rfl HO.out A2 n2 c2 rfl ((H2.out).srcF flat_byte hbel) (by simp only [maxLen]; omega) (by omega) (by omega) hbel.size ?_; intro v2 w2 own2 gr2 at2; have hb2 := hbel.grown gr2 hbel.size (fun k hk => HO.out.row_ge hk); have hc2 : w2.cell? ⟨b, off + k, none⟩ = some (.slice A2 n2 c2) := ((hb2.cell (p := ⟨b, off + k, none⟩) hbS).trans (hbel.cell (p := ⟨b, off + k, none⟩) hbS).symm).trans hc0; clear gr2 at2)
            | (go_at_call 27; (with_reducible refine (more_any y A2 n2 c2 x _ _ hx2 (H2.out.below hb2) hn2).mono ?_); rintro e w' ⟨rfl, rfl⟩))
          go_roundw
          case rel => exact ⟨k + 1, by omega, by go_num, by rw [foldl_take_succ HX.out, ← HY.out], by rw [HF.out, ← HFF.out]; exact own2, by rw [HF.out, ← HFF.out, List.length_append, ← HN2.out]; omega, hb2⟩
          case measure => simp [intOf]; omega
      · have hge : n ≤ k := by omega
        have hSL2 := Lib.hid h
        have hflm : F.length ≤ maxLen := Nat.le_trans hcp1 hcp2
        have e1 : sumC L = y := by rw [HY.out, List.take_of_length_le (by rw [← HL.out]; exact hge)]; rfl
        have e2 : moreC 0 F = y := by rw [HY.out, HFF.out, foldl_more _ 0 (by omega)]
        have E1 := Lib.hid e1
        have E2 := Lib.hid e2
        clear h e1 e2
        go_wp2_with (first
          | (go_at_call 23; (with_reducible refine (awake01_any _).mono ?_); rintro e w1 ⟨rfl, hb1⟩; have hz := hb1.size; have hbw : Below w.heap.size w w1 := hbel.trans (hb1.mono hbel.size); have hsl1 := Lib.hid ((HSL.out).below hb1); have hb2 : Below wr.heap.size wr (w1.alloc (.cells #[.slice A' F.length cap] 36)) := hb1.alloc hz _; have hsl2 := Lib.hid ((HSL.out).below hb2))
          | (go_at_call 24; (with_reducible refine (sum_any A n c L _ _ (hSL2.out.below hbw) hnm).mono ?_); rintro e w' ⟨rfl, rfl⟩; rw [E1.out])
          | (go_at_call 24; (with_reducible refine (sum1_any (by simp) hsl1.out hcp1 hcp2 (fun b hb => Nat.lt_of_lt_of_le hb hz)).mono ?_); rintro e w' ⟨rfl, rfl⟩; rw [E2.out])
          | (go_at_call 24; (with_reducible refine (sum1_any (by simp) hsl2.out hcp1 hcp2 (fun b hb => Nat.lt_of_lt_of_le hb hb2.size)).mono ?_); rintro e w' ⟨rfl, rfl⟩; rw [E2.out]))
        go_ret
        exact ⟨rfl, hbel.trans ((hb2.alloc hb2.size _).mono hbel.size)⟩
end Go.Proofs.Ytmnjjmgdeiejkaa
