/- Contracts of qanathelp's Own and Kept at bytes. -/
import Derived.Test.YtfpmpihojjegbaaHelpByte
namespace Go.Proofs.Ytfpmpihojjegbaa
open Go.RowKit

set_option maxHeartbeats 2000000 in
theorem ownCopy_byte (A : Option Addr) (n c : Nat) (l : List UInt8) (x : UInt8) (xi : Int) (hxi : xi = (x.toNat : Int)) (w : World) (h : IsSl byteRep w (· < w.heap.size) A n l) (hn : n ≤ 211106232532000) :
    Calls Try.prog 27 #[.slice A n c, .int .u8 xi] w fun e w' => ∃ g cap, e = .returned (.slice (some ⟨g, 0, none⟩) n (n + 3)) ∧ Own byteRep w' w.heap.size (fun _ => False) 5 (.slice (some ⟨g, 0, none⟩) (n + 3) cap) (l ++ [x, x, x]) ∧ Below w.heap.size w w' := by
  subst hxi
  obtain ⟨i0, hi, hz0, hz1, hz2⟩ := info_parts info_byte
  have HL := Lib.hid h.len
  have H := Lib.hid h
  have SRC : ∀ W : World, Src byteRep (W.alloc (.cells #[.int .u8 (x.toNat : Int), .int .u8 (x.toNat : Int), .int .u8 (x.toNat : Int)] 5)) (fun _ => False) (some ⟨W.heap.size, 0, none⟩) 3 [x, x, x] := fun W => Src.new3 (R := byteRep) (xs := [.int .u8 (x.toNat : Int), .int .u8 (x.toNat : Int), .int .u8 (x.toNat : Int)]) (cs := [.int .u8 (x.toNat : Int)]) ⟨rfl, trivial⟩ rfl
  have hb1 : Below w.heap.size w (w.alloc (.cells #[] 5)) := (Below.refl _ _).alloc (Nat.le_refl _) _
  clear h
  go_enter Try.func27, Try.ntmps27
  go_wp2_with (first
    | (at_builtin; refine wpList_append_Own _ rfl (.tmp 6) (.tmp 7) 27 rfl w.heap.size 5 i0 _ 1 Try.underlying27 hi hz0 hz1 hz2 rfl (R := byteRep) (S := fun _ => False) (l := []) (l' := l) (.slice (some ⟨w.heap.size, 0, none⟩) 0 0) rfl (Own.nil _ _ _ (fun _ h => h.elim) _ _) _ n c rfl ((H.out).srcF flat_byte hb1) (by simp only [maxLen, List.length_nil]; omega) (by simp only [List.length_nil]; omega) (by omega) (by simp) ?_; intro v1 w1 own1 gr1 at1; have bel1 := hb1.grown gr1 (by simp) (by intro k hk; simp [rowOf] at hk); simp only [List.nil_append] at own1; clear gr1 at1; have hf1 := own1.form; rw [← HL.out] at hf1; obtain ⟨A1, c1, rfl⟩ := hf1; have hs1 := bel1.size)
    | (at_builtin; refine wpList_append_Own _ rfl (.tmp 9) (.tmp 13) 27 rfl w.heap.size 5 i0 _ 1 Try.underlying27 hi hz0 hz1 hz2 rfl (R := byteRep) (S := fun _ => False) (l := l) (l' := [x, x, x]) (.slice A1 n c1) rfl (own1.alloc _) _ 3 _ rfl (SRC w1) (by simp only [maxLen]; rw [← HL.out]; omega) (by rw [← HL.out]; omega) (by omega) (by simp; omega) ?_; intro v2 w2 own2 gr2 at2; have bel2 : Below w.heap.size w w2 := (bel1.alloc hs1 _).grown gr2 (by simp; omega) (fun k hk => by have := own1.row_ge hk; omega); clear gr2 at2; have hf2 := own2.form1 (by simp); rw [show (l ++ [x, x, x]).length = n + 3 by rw [List.length_append, ← HL.out]; rfl] at hf2; obtain ⟨g, cap, rfl, hgB, hgl, hcp1, hcp2⟩ := hf2; have OWN2 := Lib.hid own2; clear own2)
    | fail)
  go_ret
  exact ⟨g, cap, rfl, OWN2.out, bel2⟩

set_option maxHeartbeats 2000000 in
theorem kept_byte (g n c2 : Nat) (A2 : Option Addr) (l : List UInt8) (x : UInt8) (xi : Int) (hxi : xi = (x.toNat : Int)) (w : World) (h : IsSl byteRep w (· < w.heap.size) (some ⟨g, 0, none⟩) (n + 3) (l ++ [x, x, x])) (h2 : IsSl byteRep w (· < w.heap.size) A2 n l) (hn : n ≤ 211106232532000) :
    Calls Try.prog 31 #[.slice (some ⟨g, 0, none⟩) n (n + 3), .slice A2 n c2, .int .u8 xi] w fun e w' => e = .returned (.bool true) ∧ Below w.heap.size w w' := by
  subst hxi
  have HL := Lib.hid h2.len
  have H := Lib.hid h
  have h1 := h.cutTo (hi := n) (by omega)
  rw [show (l ++ [x, x, x]).take n = l by rw [h2.len, List.take_left]] at h1
  have H1 := Lib.hid h1
  have H2 := Lib.hid h2
  clear h h1 h2
  go_enter Try.func31, Try.ntmps31
  go_wp2_with (go_at_call 52; (with_reducible refine (plain_byte _ A2 n n (n + 3) c2 l _ H1.out H2.out (by omega)).mono ?_); rintro e w2 ⟨rfl, bel2⟩)
  go_loopw [8] (fun i wr => ∃ p : Nat, i = .int .i64 p ∧ n ≤ p ∧ p ≤ n + 3 ∧ Below w.heap.size w wr) (fun i _ => n + 3 - (intOf i).toNat)
  case atStart => exact ⟨n, rfl, Nat.le_refl _, by omega, bel2⟩
  case round =>
    obtain ⟨p, rfl, hp0, hp, hbel⟩ := hrel
    obtain ⟨wo, rfl⟩ : ∃ wo : World, wo = wr := ⟨_, rfl⟩
    by_cases hlt : p < n + 3
    · obtain ⟨b, off, y, cs, hA, hbS, hx, ⟨rfl, hwf⟩, hc⟩ := H.out.at_ hlt
      obtain rfl : x = y := by
        rw [List.getElem?_append_right (by rw [← HL.out]; exact hp0), ← HL.out] at hx
        have : p - n = 0 ∨ p - n = 1 ∨ p - n = 2 := by omega
        rcases this with e | e | e <;> (rw [e] at hx; exact Option.some.inj hx)
      injection hA with hA
      injection hA with e1 e2 _
      subst e1 e2
      have c0 : wo.cell? ⟨g, p, none⟩ = some (.int .u8 (x.toNat : Int)) := (hbel.cell (p := ⟨g, p, none⟩) hbS).trans (by have e := hc 0 _ rfl; rw [show 0 + p * byteRep.size + 0 = p by show 0 + p * 1 + 0 = _; omega] at e; exact e)
      clear hx hc
      go_wp2_with fail
      go_roundw
      case rel => exact ⟨p + 1, by go_num, by omega, by omega, by first | exact hbel | exact below_drewN hbel _⟩
      case measure => simp [intOf]; omega
    · go_wp2
      go_ret
      exact ⟨rfl, hbel⟩
end Go.Proofs.Ytfpmpihojjegbaa
