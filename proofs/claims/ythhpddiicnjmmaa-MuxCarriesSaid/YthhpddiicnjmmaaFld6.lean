/- Contract: the reference's Encode. -/
import Derived.Test.YthhpddiicnjmmaaFld5
namespace Go.Proofs.Ythhpddiicnjmmaa
open Go.RowKit

/-- What a call has made, as what may be appended. -/
theorem Own.srcOf {α : Type} {R : Rep α} {w : World} {base : Nat} {e : TypeId} {v : Value} {l : List α} (h : Own R w base (fun _ => False) e v l) : ∃ A c, v = .slice A l.length c ∧ l.length ≤ c ∧ c ≤ maxLen ∧ ∀ w' (S : Nat → Prop), Flat R → Below w.heap.size w w' → Src R w' S A l.length l := by
  obtain ⟨A, c, rfl, h1, h2, h3⟩ := h.isSl (S' := (· < w.heap.size)) (fun _ h => h.elim) (fun _ _ h => h)
  exact ⟨A, c, rfl, h1, h2, fun w' S hf hb => h3.srcF hf hb⟩

set_option maxRecDepth 100000 in
set_option maxHeartbeats 2000000 in
theorem refencode_any (A : Option Addr) (n c : Nat) (l : List Fld) (w : World) (h : IsSl fldRep w (· < w.heap.size) A n l) (hm : n ≤ 281474976710656) :
    Calls Try.prog 56 #[.slice A n c] w fun e w' => ∃ v, e = .returned (.tuple #[v, .int .i64 (encE l)]) ∧ Own byteRep w' w.heap.size (fun _ => False) 5 v (encV l) ∧ Below w.heap.size w w' := by
  obtain ⟨i0, hi, hz0, hz1, hz2⟩ := info_parts info_byte
  have HL := Lib.hid h.len
  by_cases hbig : 32767 < n
  · have HE := Lib.hid (show encO l = none by unfold encO; rw [if_neg]; rintro ⟨h1, _⟩; rw [← HL.out] at h1; omega)
    go_enter Try.func56, Try.ntmps56
    go_wp2
    go_ret2
    exact ⟨_, by unfold encE; rw [HE.out]; rfl, by unfold encV; rw [HE.out]; exact Own.nil _ _ _ (fun _ h => h.elim) _ _, Below.refl _ _⟩
  · have hn : n ≤ 32767 := by omega
    have H := Lib.hid h
    clear h hbig
    go_enter Try.func56, Try.ntmps56
    go_wp2_with (first
      | (go_at_call 118; (with_reducible refine (big64_any n 2 n 2 rfl rfl _ (by omega) (by omega)).mono ?_); rintro ev w2 ⟨v2, rfl, own2, bel2⟩)
      | fail)
    go_loopw [4, 5] (fun v i wr => ∃ k : Nat, i = .int .i64 k ∧ k ≤ n ∧ Own byteRep wr w.heap.size (fun _ => False) 5 v (bigB n 2 ++ encL (l.take k)) ∧ (l.take k).all okField = true ∧ Below w.heap.size w wr) (fun _ i _ => n - (intOf i).toNat)
    case atStart => exact ⟨0, rfl, by omega, by simpa [encL] using own2, rfl, bel2⟩
    case round =>
      obtain ⟨k, rfl, hk, hown, hall, hbel⟩ := hrel
      have HO := Lib.hid hown
      have HA := Lib.hid hall
      have hsz := hbel.size
      have hel := encL_len hall
      obtain ⟨B, hB⟩ : ∃ B, B = bigB n 2 ++ encL (l.take k) := ⟨_, rfl⟩
      have hBl : B.length ≤ 200000000 := by rw [hB, List.length_append, bigB_len]; simp only [List.length_take] at hel; omega
      rw [← hB] at HO
      have HB := Lib.hid hB
      clear hown hall hel hB own2 bel2
      by_cases hlt : k < n
      · obtain ⟨b0, off, x, rfl, hbS, hx, hwf, c0, c1, c2⟩ := H.out.fld hlt (fun p hp => hbel.cell hp)
        have HX := Lib.hid hx
        clear hx
        cases hok : okField x with
        | false =>
          have HOK := Lib.hid hok
          have HE := Lib.hid (encO_none HX.out hok)
          clear hok
          go_wp2_with (go_at_call 119; (with_reducible refine (rightField_any x _).mono ?_); rintro e w3 ⟨rfl, bel3⟩; rw [HOK.out])
          go_ret2
          exact ⟨_, by unfold encE; rw [HE.out]; rfl, by unfold encV; rw [HE.out]; exact Own.nil _ _ _ (fun _ h => h.elim) _ _, hbel.trans (bel3.mono hsz)⟩
        | true =>
          have HOK := Lib.hid hok
          unfold okField at hok
          simp at hok
          have hNX : encL (l.take (k + 1)) = encL (l.take k) ++ encF x := by rw [take_snoc HX.out, encL_snoc]
          have hAX : (l.take (k + 1)).all okField = true := by rw [take_snoc HX.out, List.all_append, HA.out]; simp [HOK.out]
          have HNX := Lib.hid hNX
          have HAX := Lib.hid hAX
          clear hNX hAX
          obtain ⟨kd, xn, xs⟩ := x
          dsimp only at hok c0 c1 c2
          rcases hok with ⟨rfl, hs0⟩ | ⟨⟨rfl, rfl⟩, hs⟩
          · have HEF := Lib.hid (show encF ⟨1, xn, xs⟩ = 1 :: bigB (asU64 xn) 8 from if_pos rfl)
            clear hs0
            have tok1 : True := trivial
            go_wp2_with (first
              | (go_at_call 119; (with_reducible refine (rightField_any ⟨1, xn, xs⟩ _).mono ?_); rintro e w3 ⟨rfl, bel3⟩; rw [HOK.out]; have OW3 := Lib.hid (HO.out.below bel3); have bw3 : Below w.heap.size w w3 := hbel.trans (bel3.mono hsz); have hs3 := bw3.size; have d0 := (bel3.cell (p := ⟨b0, off + k * 3, none⟩) (Nat.lt_of_lt_of_le hbS hsz)).trans c0; have d1 := (bel3.cell (p := ⟨b0, off + k * 3 + 1, none⟩) (Nat.lt_of_lt_of_le hbS hsz)).trans c1; clear bel3)
              | (at_builtin; have _t := tok1; refine wpList_append_Own _ rfl _ _ 25 rfl w.heap.size 5 i0 _ 1 Try.underlying25 hi hz0 hz1 hz2 rfl (R := byteRep) (S := fun _ => False) (l := B) (l' := [1]) u4 rfl (OW3.out.alloc _) _ 1 1 rfl ?_ (by simp only [maxLen]; omega) (by omega) (by omega) (by simp; omega) ?_; exact Src.one (cs := [.int .u8 1]) ⟨rfl, trivial⟩ (by intro j u hu; rw [World.cell?_alloc_at _ _ _ _ rfl]; simpa using hu); intro v4 w4 own4 gr4 at4; have bw4 : Below w.heap.size w w4 := (bw3.alloc hs3 _).grown gr4 (by simp; omega) (fun g hg => OW3.out.row_ge hg); have g0 := (bw4.cell (p := ⟨b0, off + k * 3, none⟩) hbS).trans ((hbel.cell (p := ⟨b0, off + k * 3, none⟩) hbS).symm.trans c0); have g1 := (bw4.cell (p := ⟨b0, off + k * 3 + 1, none⟩) hbS).trans ((hbel.cell (p := ⟨b0, off + k * 3 + 1, none⟩) hbS).symm.trans c1); have OW4 := Lib.hid own4; have hs4 := bw4.size; clear gr4 at4 own4 tok1)
              | (go_at_call 118; (with_reducible refine (big64_any (asU64 xn) 8 _ 8 (u64_wrap xn) rfl _ (u64_lt xn) (by omega)).mono ?_); rintro ev w5 ⟨v5, rfl, own5, bel5⟩; have OW5 := Lib.hid (OW4.out.below bel5); obtain ⟨A5, c5, rfl, hlc5, hcm5, hsrc5⟩ := own5.srcOf; rw [bigB_len] at hsrc5 ⊢; have HS5 := Lib.hid (hsrc5 w5 (fun _ => False) flat_byte (Below.refl _ _)); have bw5 : Below w.heap.size w w5 := bw4.trans (bel5.mono hs4); have hs5 := bw5.size; clear own5 hsrc5 bel5)
              | (at_builtin; (refine wpList_append_Own _ rfl _ _ 25 rfl w.heap.size 5 i0 _ 1 Try.underlying25 hi hz0 hz1 hz2 rfl (R := byteRep) (S := fun _ => False) (l := B ++ [1]) (l' := bigB (asU64 xn) 8) v4 rfl OW5.out A5 8 c5 rfl HS5.out (by simp [maxLen]; omega) (by simp; omega) (by omega) hs5 ?_); intro v6 w6 own6 gr6 at6; have OW6 := Lib.hid own6; have bw6 := Lib.hid (bw5.grown gr6 hs5 (fun g hg => OW5.out.row_ge hg)); clear own6 gr6 at6)
              | fail)
            go_roundw
            case rel => exact ⟨k + 1, by go_num, by omega, by rw [HNX.out, HEF.out, ← List.append_assoc, ← HB.out]; simpa using OW6.out, HAX.out, bw6.out⟩
            case measure => simp [intOf]; omega
          · have HEF := Lib.hid (show encF ⟨2, 0, xs⟩ = 2 :: (bigB xs.size 2 ++ xs.data.toList) from rfl)
            have tok1 : True := trivial
            go_wp2_with (first
              | (go_at_call 119; (with_reducible refine (rightField_any ⟨2, 0, xs⟩ _).mono ?_); rintro e w3 ⟨rfl, bel3⟩; rw [HOK.out]; have OW3 := Lib.hid (HO.out.below bel3); have bw3 : Below w.heap.size w w3 := hbel.trans (bel3.mono hsz); have hs3 := bw3.size; have d0 := (bel3.cell (p := ⟨b0, off + k * 3, none⟩) (Nat.lt_of_lt_of_le hbS hsz)).trans c0; have d1 := (bel3.cell (p := ⟨b0, off + k * 3 + 2, none⟩) (Nat.lt_of_lt_of_le hbS hsz)).trans c2; clear bel3)
              | (at_builtin; have _t := tok1; refine wpList_append_Own _ rfl _ _ 25 rfl w.heap.size 5 i0 _ 1 Try.underlying25 hi hz0 hz1 hz2 rfl (R := byteRep) (S := fun _ => False) (l := B) (l' := [2]) u4 rfl (OW3.out.alloc _) _ 1 1 rfl ?_ (by simp only [maxLen]; omega) (by omega) (by omega) (by simp; omega) ?_; exact Src.one (cs := [.int .u8 2]) ⟨rfl, trivial⟩ (by intro j u hu; rw [World.cell?_alloc_at _ _ _ _ rfl]; simpa using hu); intro v4 w4 own4 gr4 at4; have bw4 : Below w.heap.size w w4 := (bw3.alloc hs3 _).grown gr4 (by simp; omega) (fun g hg => OW3.out.row_ge hg); have g0 := (bw4.cell (p := ⟨b0, off + k * 3, none⟩) hbS).trans ((hbel.cell (p := ⟨b0, off + k * 3, none⟩) hbS).symm.trans c0); have g1 := (bw4.cell (p := ⟨b0, off + k * 3 + 2, none⟩) hbS).trans ((hbel.cell (p := ⟨b0, off + k * 3 + 2, none⟩) hbS).symm.trans c2); have OW4 := Lib.hid own4; have hs4 := bw4.size; clear gr4 at4 own4 tok1)
              | (go_at_call 118; (with_reducible refine (big64_any xs.size 2 _ 2 rfl rfl _ (by omega) (by omega)).mono ?_); rintro ev w5 ⟨v5, rfl, own5, bel5⟩; have OW5 := Lib.hid (OW4.out.below bel5); obtain ⟨A5, c5, rfl, hlc5, hcm5, hsrc5⟩ := own5.srcOf; rw [bigB_len] at hsrc5 ⊢; have HS5 := Lib.hid (hsrc5 w5 (fun _ => False) flat_byte (Below.refl _ _)); have bw5 : Below w.heap.size w w5 := bw4.trans (bel5.mono hs4); have hs5 := bw5.size; clear own5 hsrc5 bel5)
              | (at_builtin; (refine wpList_append_Own _ rfl _ _ 25 rfl w.heap.size 5 i0 _ 1 Try.underlying25 hi hz0 hz1 hz2 rfl (R := byteRep) (S := fun _ => False) (l := B ++ [2]) (l' := bigB xs.size 2) v4 rfl OW5.out A5 2 c5 rfl HS5.out (by simp [maxLen]; omega) (by simp; omega) (by omega) hs5 ?_); intro v6 w6 own6 gr6 at6; have OW6 := Lib.hid own6; have bw6 : Below w.heap.size w w6 := bw5.grown gr6 hs5 (fun g hg => OW5.out.row_ge hg); have hs6 := bw6.size; have k2 := (bw6.cell (p := ⟨b0, off + k * 3 + 2, none⟩) hbS).trans ((hbel.cell (p := ⟨b0, off + k * 3 + 2, none⟩) hbS).symm.trans c2); clear own6 gr6 at6)
              | (at_builtin; refine wpList_append_Own_str rfl _ _ 25 9 rfl w.heap.size 5 i0 Try.underlying25 Try.underlying9 hi hz0 hz1 hz2 v6 rfl OW6.out (by simp) xs rfl (by simp [bigB_len]; omega) hs6 ?_; intro v7 w7 own7 gr7; have OW7 := Lib.hid own7; have bw7 := Lib.hid (bw6.grown gr7 hs6 (fun g hg => OW6.out.row_ge hg)); clear own7 gr7)
              | fail)
            go_roundw
            case rel => exact ⟨k + 1, by go_num, by omega, by rw [HNX.out, HEF.out, ← List.append_assoc, ← HB.out]; simpa using OW7.out, HAX.out, bw7.out⟩
            case measure => simp [intOf]; omega
      · have HE := Lib.hid (show encO l = some B by rw [encO_all (by rw [← HL.out]; omega) (by have := HA.out; rwa [List.take_of_length_le (by rw [← HL.out]; omega)] at this), HB.out, List.take_of_length_le (by rw [← HL.out]; omega), ← HL.out])
        have hge : k = n := by omega
        subst hge
        go_wp2
        go_ret2
        exact ⟨_, by unfold encE; rw [HE.out]; rfl, by unfold encV; rw [HE.out]; exact HO.out, hbel⟩
end Go.Proofs.Ythhpddiicnjmmaa
