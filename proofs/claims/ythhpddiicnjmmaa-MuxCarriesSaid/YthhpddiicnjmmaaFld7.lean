/- Contract: the reference's Decode. -/
import Derived.Test.YthhpddiicnjmmaaFld6
namespace Go.Proofs.Ythhpddiicnjmmaa
open Go.RowKit

theorem IsSl.mid {w : World} {S : Nat → Prop} {b off n lo m : Nat} {l : List UInt8} (h : IsSl byteRep w S (some ⟨b, off, none⟩) n l) (h2 : lo + m ≤ n) : IsSl byteRep w S (some ⟨b, off + lo, none⟩) m ((l.drop lo).take m) := by
  have := h.cut (lo := lo) (hi := lo + m) (by omega) h2 (A' := some ⟨b, off + lo, none⟩) (fun _ => by simp only [Option.map_some, add_none]; rw [show byteRep.size = 1 from rfl, Nat.mul_one])
  rw [show lo + m - lo = m by omega, List.drop_take] at this
  rw [show lo + m - lo = m by omega] at this
  exact this

theorem decN_short {b : List UInt8} {k at_ : Nat} {acc : List Fld} (h : b.length ≤ at_) : decN (k + 1) (b.drop at_) acc = .error 2 := by
  rw [List.drop_eq_nil_of_le h]; rfl

theorem decF_at {b : List UInt8} {at_ : Nat} {x : UInt8} (h : b[at_]? = some x) : b.drop at_ = x :: b.drop (at_ + 1) := by
  obtain ⟨hk, rfl⟩ := List.getElem?_eq_some_iff.1 h
  exact List.drop_eq_getElem_cons hk

theorem numB_lt2 {l : List UInt8} (h : l.length ≤ 2) : numB l < 65536 :=
  Nat.lt_of_lt_of_le (numB_lt l) (Nat.pow_le_pow_right (show 256 > 0 by omega) h)

theorem numB_lt8 {l : List UInt8} (h : l.length ≤ 8) : numB l < 18446744073709551616 := by
  have h8 : (256 : Nat) ^ 8 = 18446744073709551616 := by decide +kernel
  rw [← h8]
  exact Nat.lt_of_lt_of_le (numB_lt l) (Nat.pow_le_pow_right (show 256 > 0 by omega) h)

set_option maxRecDepth 100000 in
set_option maxHeartbeats 4000000 in
theorem refdecode_any (A : Option Addr) (n c : Nat) (b : List UInt8) (w : World) (h : IsSl byteRep w (· < w.heap.size) A n b) (h1 : n ≤ c) (h2 : c ≤ maxLen) :
    Calls Try.prog 69 #[.slice A n c] w fun e w' => ∃ v, e = .returned (.tuple #[v, .int .i64 (decE b)]) ∧ Own fldRep w' w.heap.size (fun _ => False) 41 v (decV b) ∧ Below w.heap.size w w' := by
  obtain ⟨i0, hi, hz0, hz1, hz2⟩ := info_parts info_fld
  have HL := Lib.hid h.len
  have hcm : c ≤ 9223372036854775807 := by unfold maxLen at h2; exact h2
  by_cases hs : n < 2
  · have HE := Lib.hid (show decO b = .error 2 by unfold decO; rw [if_pos (by rw [← HL.out]; exact hs)])
    go_enter Try.func69, Try.ntmps69
    go_wp2
    go_ret2
    exact ⟨_, by unfold decE; rw [HE.out]; rfl, by unfold decV; rw [HE.out]; exact Own.nil _ _ _ (fun _ h => h.elim) _ _, Below.refl _ _⟩
  · obtain ⟨b0, off, _, _, rfl, hbS, _, _, _⟩ := h.at_ (k := 0) (by omega)
    have H := Lib.hid h
    have HH := Lib.hid (h.cutTo (hi := 2) (by omega))
    have hlt := numB_lt (b.take 2)
    have hN2 : numB (b.take 2) < 65536 := numB_lt2 (List.length_take_le _ _)
    obtain ⟨N, hN⟩ : ∃ N, N = numB (b.take 2) := ⟨_, rfl⟩
    rw [← hN] at hN2
    have HD0 := Lib.hid (show decO b = if 32767 < N then .error 3 else decN N (b.drop 2) [] by unfold decO; rw [if_neg (by rw [← HL.out]; exact hs), hN])
    have HN := Lib.hid hN
    clear h hlt hN
    by_cases hbig : 32767 < N
    · have HE := Lib.hid (show decO b = .error 3 by rw [HD0.out, if_pos hbig])
      go_enter Try.func69, Try.ntmps69
      go_wp2_with (go_at_call 129; (with_reducible refine (refnumber_any _ 2 c (b.take 2) _ HH.out (by omega)).mono ?_); rintro e w' ⟨rfl, rfl⟩; rw [← HN.out])
      go_ret2
      exact ⟨_, by unfold decE; rw [HE.out]; rfl, by unfold decV; rw [HE.out]; exact Own.nil _ _ _ (fun _ h => h.elim) _ _, Below.refl _ _⟩
    · have HD := Lib.hid (show decO b = decN N (b.drop 2) [] by rw [HD0.out, if_neg hbig])
      have hN3 : N ≤ 32767 := by omega
      clear hbig hN2
      go_enter Try.func69, Try.ntmps69
      go_wp2_with (go_at_call 129; (with_reducible refine (refnumber_any _ 2 c (b.take 2) _ HH.out (by omega)).mono ?_); rintro e w' ⟨rfl, rfl⟩; rw [← HN.out])
      go_loopw [5, 6, 7] (fun a v i wr => ∃ (at_ j : Nat) (acc : List Fld), a = .int .i64 at_ ∧ i = .int .i64 j ∧ at_ ≤ n ∧ j ≤ N ∧ acc.length = j ∧ Own fldRep wr w.heap.size (fun _ => False) 41 v acc ∧ decO b = decN (N - j) (b.drop at_) acc ∧ Below w.heap.size w wr) (fun _ _ i _ => N - (intOf i).toNat)
      case atStart => exact ⟨2, 0, [], rfl, rfl, by omega, by omega, rfl, Own.nil _ _ _ (fun _ h => h.elim) _ _, HD.out, Below.refl _ _⟩
      case round =>
        obtain ⟨at_, j, acc, rfl, rfl, hat, hj, hacc, hown, hdec, hbel⟩ := hrel
        have HO := Lib.hid hown
        have HDC := Lib.hid hdec
        have HAC := Lib.hid hacc
        have hsz := hbel.size
        clear hown hdec hacc
        by_cases hjN : j < N
        · obtain ⟨m, hm⟩ : ∃ m, N - j = m + 1 := ⟨N - j - 1, by omega⟩
          have HM := Lib.hid hm
          rw [hm] at HDC
          clear hm
          by_cases hlt : at_ < n
          · obtain ⟨b1, off1, x, cs, hA, _, hx, ⟨rfl, _⟩, hc⟩ := H.out.at_ hlt
            injection hA with hA
            injection hA with e1 e2 _
            subst e1 e2
            have c0 : wr.cell? ⟨b0, off + at_, none⟩ = some (.int .u8 (x.toNat : Int)) := by have h0 := hc 0 _ rfl; rw [show off + at_ * byteRep.size + 0 = off + at_ by show off + at_ * 1 + 0 = _; omega] at h0; exact (hbel.cell (p := ⟨b0, off + at_, none⟩) hbS).trans h0
            have HX := Lib.hid (decF_at hx)
            rw [HX.out] at HDC
            obtain ⟨t, ht⟩ : ∃ t, t = b.drop (at_ + 1) := ⟨_, rfl⟩
            have htl : t.length = n - (at_ + 1) := by rw [ht, List.length_drop, ← HL.out]
            rw [← ht] at HDC
            have HT := Lib.hid ht
            have HTL := Lib.hid htl
            clear hc hx ht htl
            by_cases hx1 : x = 1
            · subst hx1
              by_cases h8 : n - (at_ + 1) < 8
              · have HE := Lib.hid (show decO b = .error 2 by rw [HDC.out, decN, decF, if_pos rfl, if_pos (by rw [HTL.out]; exact h8)])
                have h8i : (n : Int) - ((at_ : Int) + 1) < 8 := by omega
                go_wp2_with fail
                go_ret2
                exact ⟨_, by unfold decE; rw [HE.out]; rfl, by unfold decV; rw [HE.out]; exact Own.nil _ _ _ (fun _ h => h.elim) _ _, hbel⟩
              · have HS := Lib.hid (((H.out.mid (lo := at_ + 1) (m := 8) (by omega)).below hbel).more hsz)
                have HDN := Lib.hid (show decO b = decN m (b.drop (at_ + 1 + 8)) (acc ++ [⟨1, wrap64 (numB (t.take 8) : Int), ByteArray.empty⟩]) by rw [HDC.out, decN, decF, if_pos rfl, if_neg (by rw [HTL.out]; exact h8)]; dsimp only; rw [HT.out, List.drop_drop])
                have h8i : ¬ (n : Int) - ((at_ : Int) + 1) < 8 := by omega
                have hNB := numB_lt8 (l := t.take 8) (List.length_take_le _ _)
                obtain ⟨X, hX⟩ : ∃ X, X = numB (t.take 8) := ⟨_, rfl⟩
                rw [← hX] at hNB HDN
                have HXX := Lib.hid (show numB ((b.drop (at_ + 1)).take 8) = X by rw [hX, HT.out])
                clear h8 hX
                go_wp2_with (first
                  | (go_at_call 129; (with_reducible refine (refnumber_any _ 8 _ _ _ HS.out (by omega)).mono ?_); rintro e w' ⟨rfl, rfl⟩; rw [HXX.out])
                  | (go_at_call 22; (with_reducible refine (num_any _ _).mono ?_); rintro e w3 ⟨rfl, bel3⟩; have OW3 := Lib.hid (HO.out.below bel3); have bw3 : Below w.heap.size w w3 := hbel.trans (bel3.mono hsz); have hs3 := bw3.size; clear bel3)
                  | (at_builtin; go_loud (refine wpList_append_Own _ rfl _ _ 38 rfl w.heap.size 41 i0 _ 32 Try.underlying38 hi hz0 hz1 hz2 rfl (R := fldRep) (S := fun _ => False) (l := acc) (l' := [⟨1, wrap64 (X : Int), ByteArray.empty⟩]) u6 rfl (OW3.out.alloc _) _ 1 1 rfl ?_ (by simp only [maxLen]; rw [HAC.out]; omega) (by rw [HAC.out]; omega) (by omega) (by simp; omega) ?_; exact Src.new ⟨rfl, by unfold I64; dsimp only; omega, wrap64_i64 _, by show 0 ≤ _; omega⟩; intro v5 w5 own5 gr5 at5; have bw5 := (bw3.alloc (by omega) _).grown gr5 (by simp; omega) (fun g hg => OW3.out.row_ge hg); have OW5 := Lib.hid own5; clear own5 gr5 at5))
                  | fail)
                go_roundw
                case rel => exact ⟨at_ + 1 + 8, j + 1, _, by go_num, by go_num, by omega, by omega, by rw [List.length_append, HAC.out]; rfl, OW5.out, by rw [show N - (j + 1) = m by have := HM.out; omega]; exact HDN.out, bw5⟩
                case measure => simp [intOf]; omega
            · by_cases hx2 : x = 2
              · subst hx2
                by_cases h8 : n - (at_ + 1) < 2
                · have HE := Lib.hid (show decO b = .error 2 by rw [HDC.out, decN, decF, if_neg (by decide), if_pos rfl, if_pos (by rw [HTL.out]; exact h8)])
                  have h8i : (n : Int) - ((at_ : Int) + 1) < 2 := by omega
                  go_wp2_with fail
                  go_ret2
                  exact ⟨_, by unfold decE; rw [HE.out]; rfl, by unfold decV; rw [HE.out]; exact Own.nil _ _ _ (fun _ h => h.elim) _ _, hbel⟩
                · have HS := Lib.hid (((H.out.mid (lo := at_ + 1) (m := 2) (by omega)).below hbel).more hsz)
                  have h8i : ¬ (n : Int) - ((at_ : Int) + 1) < 2 := by omega
                  have hNB := numB_lt2 (l := t.take 2) (List.length_take_le _ _)
                  obtain ⟨X, hX⟩ : ∃ X, X = numB (t.take 2) := ⟨_, rfl⟩
                  rw [← hX] at hNB
                  have HXX := Lib.hid (show numB ((b.drop (at_ + 1)).take 2) = X by rw [hX, HT.out])
                  have HDX := Lib.hid (show decF (2 :: t) = if 4096 < X then .error 3 else if (t.drop 2).length < X then .error 2 else .ok (⟨2, 0, ⟨((t.drop 2).take X).toArray⟩⟩, (t.drop 2).drop X) by rw [decF, if_neg (by decide), if_pos rfl, if_neg (by rw [HTL.out]; exact h8), ← hX])
                  have hdl : (t.drop 2).length = n - (at_ + 1) - 2 := by rw [List.length_drop, HTL.out]
                  have HDL := Lib.hid hdl
                  clear hX hdl
                  by_cases hbg : 4096 < X
                  · have HE := Lib.hid (show decO b = .error 3 by rw [HDC.out, decN, HDX.out, if_pos hbg])
                    go_wp2_with (first
                      | (go_at_call 129; (with_reducible refine (refnumber_any _ 2 _ _ _ HS.out (by omega)).mono ?_); rintro e w' ⟨rfl, rfl⟩; rw [HXX.out])
                      | fail)
                    go_ret2
                    exact ⟨_, by unfold decE; rw [HE.out]; rfl, by unfold decV; rw [HE.out]; exact Own.nil _ _ _ (fun _ h => h.elim) _ _, hbel⟩
                  · by_cases hsh : n - (at_ + 1) - 2 < X
                    · have HE := Lib.hid (show decO b = .error 2 by rw [HDC.out, decN, HDX.out, if_neg hbg, if_pos (by rw [HDL.out]; exact hsh)])
                      have h9 : (n : Int) - ((at_ : Int) + 1 + 2) < (X : Int) := by omega
                      go_wp2_with (first
                        | (go_at_call 129; (with_reducible refine (refnumber_any _ 2 _ _ _ HS.out (by omega)).mono ?_); rintro e w' ⟨rfl, rfl⟩; rw [HXX.out])
                        | fail)
                      go_ret2
                      exact ⟨_, by unfold decE; rw [HE.out]; rfl, by unfold decV; rw [HE.out]; exact Own.nil _ _ _ (fun _ h => h.elim) _ _, hbel⟩
                    · have h9 : ¬ (n : Int) - ((at_ : Int) + 1 + 2) < (X : Int) := by omega
                      have HS2 := Lib.hid (((H.out.mid (lo := at_ + 1 + 2) (m := X) (by omega)).below hbel).more hsz)
                      obtain ⟨L, hL⟩ : ∃ L, L = (t.drop 2).take X := ⟨_, rfl⟩
                      have hLL : L.length ≤ 4096 := by rw [hL, List.length_take]; omega
                      have hLe : (b.drop (at_ + 1 + 2)).take X = L := by rw [hL, HT.out, List.drop_drop]
                      rw [hLe] at HS2
                      have HDN := Lib.hid (show decO b = decN m (b.drop (at_ + 1 + 2 + X)) (acc ++ [⟨2, 0, ⟨L.toArray⟩⟩]) by rw [HDC.out, decN, HDX.out, if_neg hbg, if_neg (by rw [HDL.out]; exact hsh)]; dsimp only; rw [hL, HT.out, List.drop_drop, List.drop_drop, show at_ + 1 + 2 + X = at_ + 1 + (2 + X) by omega])
                      have hXle : X ≤ 4096 := by omega
                      by_cases hc0 : c = at_ + 1 + 2
                      · obtain rfl : X = 0 := by omega
                        subst hc0
                        obtain rfl : L = [] := List.eq_nil_of_length_eq_zero HS2.out.len.symm
                        have hcv := run_str_of (P := Try.prog) (w := wr) (S := fun _ => True) (A := some ⟨b0, off, none⟩) (n := 0) (l := []) (c := 0) 25 9 5 Try.underlying25 Try.underlying5 Try.underlying9 IsSl.nil
                        clear h8 hbg hsh hL hLe hLL
                        go_wp2_with (first
                          | (go_at_call 129; (with_reducible refine (refnumber_any _ 2 _ _ _ HS.out (by omega)).mono ?_); rintro e w' ⟨rfl, rfl⟩; rw [HXX.out])
                          | (go_at_call 55; (with_reducible refine (text_any ⟨#[]⟩ _).mono ?_); rintro e w3 ⟨rfl, bel3⟩; have OW3 := Lib.hid (HO.out.below bel3); have bw3 : Below w.heap.size w w3 := hbel.trans (bel3.mono hsz); have hs3 := bw3.size; clear bel3)
                          | (at_builtin; refine wpList_append_Own _ rfl _ _ 38 rfl w.heap.size 41 i0 _ 32 Try.underlying38 hi hz0 hz1 hz2 rfl (R := fldRep) (S := fun _ => False) (l := acc) (l' := [⟨2, 0, ⟨#[]⟩⟩]) u6 rfl (OW3.out.alloc _) _ 1 1 rfl ?_ (by simp only [maxLen]; rw [HAC.out]; omega) (by rw [HAC.out]; omega) (by omega) (by simp; omega) ?_; exact Src.new ⟨rfl, by unfold I64; dsimp only; omega, by unfold I64; dsimp only; omega, by show 0 ≤ _; omega⟩; intro v5 w5 own5 gr5 at5; have bw5 := (bw3.alloc (by omega) _).grown gr5 (by simp; omega) (fun g hg => OW3.out.row_ge hg); have OW5 := Lib.hid own5; clear own5 gr5 at5)
                          | fail)
                        go_roundw
                        case rel => exact ⟨at_ + 1 + 2, j + 1, _, by go_num, by go_num, by omega, by omega, by rw [List.length_append, HAC.out]; rfl, OW5.out, by rw [show N - (j + 1) = m by have := HM.out; omega]; have hd := HDN.out; rw [Nat.add_zero] at hd; exact hd, bw5⟩
                        case measure => simp [intOf]; omega
                      · have hcv := run_str_of (P := Try.prog) (c := c - (at_ + 1 + 2)) 25 9 5 Try.underlying25 Try.underlying5 Try.underlying9 HS2.out
                        clear h8 hbg hsh hL hLe
                        go_wp2_with (first
                          | (go_at_call 129; (with_reducible refine (refnumber_any _ 2 _ _ _ HS.out (by omega)).mono ?_); rintro e w' ⟨rfl, rfl⟩; rw [HXX.out])
                          | (go_at_call 55; (with_reducible refine (text_any ⟨L.toArray⟩ _).mono ?_); rintro e w3 ⟨rfl, bel3⟩; have OW3 := Lib.hid (HO.out.below bel3); have bw3 : Below w.heap.size w w3 := hbel.trans (bel3.mono hsz); have hs3 := bw3.size; clear bel3)
                          | (at_builtin; refine wpList_append_Own _ rfl _ _ 38 rfl w.heap.size 41 i0 _ 32 Try.underlying38 hi hz0 hz1 hz2 rfl (R := fldRep) (S := fun _ => False) (l := acc) (l' := [⟨2, 0, ⟨L.toArray⟩⟩]) u6 rfl (OW3.out.alloc _) _ 1 1 rfl ?_ (by simp only [maxLen]; rw [HAC.out]; omega) (by rw [HAC.out]; omega) (by omega) (by simp; omega) ?_; exact Src.new ⟨rfl, by unfold I64; dsimp only; omega, by unfold I64; dsimp only; omega, by unfold maxLen; simp only [ByteArray.size, List.size_toArray]; omega⟩; intro v5 w5 own5 gr5 at5; have bw5 := (bw3.alloc (by omega) _).grown gr5 (by simp; omega) (fun g hg => OW3.out.row_ge hg); have OW5 := Lib.hid own5; clear own5 gr5 at5)
                          | fail)
                        go_roundw
                        case rel => exact ⟨at_ + 1 + 2 + X, j + 1, _, by go_num, by go_num, by omega, by omega, by rw [List.length_append, HAC.out]; rfl, OW5.out, by rw [show N - (j + 1) = m by have := HM.out; omega]; exact HDN.out, bw5⟩
                        case measure => simp [intOf]; omega
              · have HE := Lib.hid (show decO b = .error 3 by rw [HDC.out, decN, decF, if_neg hx1, if_neg hx2])
                have hy1 : x.toNat ≠ 1 := fun e => hx1 (UInt8.toNat_inj.1 (by rw [e]; rfl))
                have hy2 : x.toNat ≠ 2 := fun e => hx2 (UInt8.toNat_inj.1 (by rw [e]; rfl))
                have hyb : x.toNat < 256 := x.toNat_lt
                obtain ⟨y, hy⟩ : ∃ y, y = x.toNat := ⟨_, rfl⟩
                rw [← hy] at hy1 hy2 hyb c0
                have hk1 : ((y : Int) == 1) = false := by simp; omega
                have hk2 : ((y : Int) == 2) = false := by simp; omega
                clear hx1 hx2 hy hy1 hy2
                go_wp2_with fail
                go_ret2
                exact ⟨_, by unfold decE; rw [HE.out]; rfl, by unfold decV; rw [HE.out]; exact Own.nil _ _ _ (fun _ h => h.elim) _ _, hbel⟩
          · have HE := Lib.hid (show decO b = .error 2 by rw [HDC.out]; exact decN_short (by rw [← HL.out]; omega))
            go_wp2_with fail
            go_ret2
            exact ⟨_, by unfold decE; rw [HE.out]; rfl, by unfold decV; rw [HE.out]; exact Own.nil _ _ _ (fun _ h => h.elim) _ _, hbel⟩
        · obtain rfl : j = N := by omega
          rw [Nat.sub_self] at HDC
          by_cases hlt : at_ < n
          · have HE := Lib.hid (show decO b = .error 3 by rw [HDC.out, decN, if_neg (by intro e; have := congrArg List.length e; simp at this; rw [← HL.out] at this; omega)])
            go_wp2_with fail
            go_ret2
            exact ⟨_, by unfold decE; rw [HE.out]; rfl, by unfold decV; rw [HE.out]; exact Own.nil _ _ _ (fun _ h => h.elim) _ _, hbel⟩
          · have HE := Lib.hid (show decO b = .ok acc by rw [HDC.out, decN, if_pos (List.drop_eq_nil_of_le (by rw [← HL.out]; omega))])
            go_wp2
            go_ret2
            exact ⟨_, by unfold decE; rw [HE.out]; rfl, by unfold decV; rw [HE.out]; exact HO.out, hbel⟩
end Go.Proofs.Ythhpddiicnjmmaa
