/- The walks of the laws FieldBytes and FieldReads. -/
import Derived.Test.YtfpmpihojjegbaaFldA
import Derived.Test.YtfpmpihojjegbaaHelpFld
namespace Go.Proofs.Ytfpmpihojjegbaa
open Go.RowKit

set_option maxHeartbeats 2000000 in
theorem fieldBytes_walk (w : World) (A : Option Addr) (n c : Nat) (l : List Fld) (h : IsSl fldRep w (· < w.heap.size) A n l) (_ : n ≤ c) (_ : c ≤ maxLen) :
    Calls Try.prog 3 #[.slice A n c] w fun e w' => e = .returned (.bool true) ∧ Below w.heap.size w w' := by
  have H := Lib.hid h
  have HL := Lib.hid h.len
  have hx9 : (⟨0, 9, ⟨#[]⟩⟩ : Fld).wf := ⟨by unfold I64; dsimp only; omega, by unfold I64; dsimp only; omega, by show 0 ≤ _; omega⟩
  clear h
  by_cases hbig : 400 < n
  · go_enter Try.func3, Try.ntmps3
    go_wp2_with (go_at_call 14; (with_reducible refine (awake02_any _).mono ?_); rintro e w1 ⟨rfl, hb1⟩)
    go_ret
    exact ⟨rfl, hb1⟩
  · have hn : n ≤ 400 := by omega
    clear hbig
    go_enter Try.func3, Try.ntmps3
    go_wp2_with (first
      | (go_at_call 15; (with_reducible refine (ownCopy_fld A n c l ⟨0, 9, ⟨#[]⟩⟩ _ H.out hx9 (by omega)).mono ?_); rintro e w2 ⟨g, cap, rfl, own2, bel2⟩; obtain ⟨hgl, hgB, sl3, sln⟩ := own2.copied HL.out; have SL3 := Lib.hid sl3; have SLN := Lib.hid sln; have hs2 := bel2.size; have H2 := Lib.hid ((H.out.below bel2).more hs2); clear own2 sl3 sln)
      | (go_at_call 16; (with_reducible refine (encode_any _ n _ l _ SLN.out (by omega)).mono ?_); rintro e w3 ⟨v3, rfl, own3, bel3⟩; obtain ⟨A3, c3, rfl, _, _, sl3⟩ := own3.isSlB; have SLE := Lib.hid sl3; have hs3 := bel3.size; have H3 := Lib.hid ((H2.out.below bel3).more hs3); have bw3 : Below w.heap.size w w3 := bel2.trans (bel3.mono hs2); have SK3 := Lib.hid ((SL3.out.below bel3).more hs3); clear own3 sl3 bel3)
      | (go_at_call 17; (with_reducible refine (refencode_any A n c l _ H3.out (by omega)).mono ?_); rintro e w4 ⟨v4, rfl, own4, bel4⟩; obtain ⟨A4, c4, rfl, _, _, sl4⟩ := own4.isSlB; have SLR := Lib.hid sl4; have hs4 := bel4.size; have H4 := Lib.hid ((H3.out.below bel4).more hs4); have bw4 : Below w.heap.size w w4 := bw3.trans (bel4.mono (by omega)); have SK4 := Lib.hid ((SK3.out.below bel4).more hs4); have SLE4 := Lib.hid ((SLE.out.below bel4).more hs4); clear own4 sl4 bel4)
      | (go_at_call 14; (with_reducible refine (awake02_any _).mono ?_); rintro e w5 ⟨rfl, bel5⟩; have hs5 := bel5.size; have H5 := Lib.hid ((H4.out.below bel5).more hs5); have bw5 : Below w.heap.size w w5 := bw4.trans (bel5.mono (by omega)); have SK5 := Lib.hid ((SK4.out.below bel5).more hs5); have SLE5 := Lib.hid ((SLE4.out.below bel5).more hs5); have SLR5 := Lib.hid ((SLR.out.below bel5).more hs5); clear bel5)
      | (go_at_call 18; (with_reducible refine (bytes_any _ _ _ _ _ _ (encV l) _ _ _ SLE5.out SLR5.out).mono ?_); rintro e w' ⟨rfl, rfl⟩)
      | (go_at_call 19; (with_reducible refine (kept_fld g n c A l ⟨0, 9, ⟨#[]⟩⟩ _ SK5.out H5.out (by omega)).mono ?_); rintro e w6 ⟨rfl, bel6⟩)
      | fail)
    all_goals go_outline
    go_ret
    exact ⟨rfl, bw5.trans (bel6.mono (by omega))⟩

theorem decN_len : ∀ (k : Nat) (b : List UInt8) (acc l : List Fld), decN k b acc = .ok l → l.length = acc.length + k
  | 0, b, acc, l, h => by
    rw [decN] at h
    split at h
    · cases h; rfl
    · cases h
  | k + 1, b, acc, l, h => by
    rw [decN] at h
    split at h
    · cases h
    · have := decN_len k _ _ _ h
      rw [List.length_append] at this
      simp at this
      omega

theorem decV_small (b : List UInt8) : (decV b).length ≤ 281474976710656 := by
  unfold decV
  split
  · rename_i l h
    unfold decO at h
    split at h
    · cases h
    · split at h
      · cases h
      · have := decN_len _ _ _ _ h
        simp at this
        omega
  · simp

set_option maxHeartbeats 2000000 in
theorem fieldReads_walk (w : World) (A : Option Addr) (n c : Nat) (l : List UInt8) (h : IsSl byteRep w (· < w.heap.size) A n l) (h1 : n ≤ c) (h2 : c ≤ maxLen) (hz : c * 1 ≤ 140737488351232) :
    Calls Try.prog 4 #[.slice A n c] w fun e w' => e = .returned (.bool true) ∧ Below w.heap.size w w' := by
  obtain ⟨i0, hi, hz0, hz1, hz2⟩ := info_parts info_byte
  have H := Lib.hid h
  have HL := Lib.hid h.len
  have hb0 : Below w.heap.size w (w.alloc (.cells #[] 5)) := (Below.refl _ _).alloc (Nat.le_refl _) _
  clear h
  go_enter Try.func4, Try.ntmps4
  go_wp2_with (first
    | (at_builtin; go_loud (refine wpList_append_Own _ rfl _ _ 27 rfl w.heap.size 5 i0 _ 1 Try.underlying27 hi hz0 hz1 hz2 rfl (R := byteRep) (S := fun _ => False) (l := []) (l' := l) (.slice (some ⟨w.heap.size, 0, none⟩) 0 0) rfl (Own.nil _ _ _ (fun _ h => h.elim) _ _) A n c rfl ((H.out).srcF flat_byte hb0) (by simp [maxLen]; omega) (by simp; omega) (by omega) (by simp) ?_; intro v1 w1 own1 gr1 at1; have bel1 := hb0.grown gr1 (by simp) (by intro k hk; simp [rowOf] at hk); simp only [List.nil_append] at own1; obtain ⟨A1, c1, rfl, hlc1, hcm1, sl1⟩ := own1.isSlB; rw [← HL.out] at hlc1 sl1 ⊢; have SL1 := Lib.hid sl1; have hs1 := bel1.size; have H1 := Lib.hid ((H.out.below bel1).more hs1); clear gr1 at1 own1 sl1))
    | (go_at_call 20; go_loud (with_reducible refine (decode_any A1 n c1 l _ SL1.out hlc1 hcm1).mono ?_); rintro e w3 ⟨v3, rfl, own3, bel3⟩; obtain ⟨A3, c3, rfl, _, _, sl3⟩ := own3.isSlB; have SL3 := Lib.hid sl3; have hs3 := bel3.size; have H3 := Lib.hid ((H1.out.below bel3).more hs3); have bw3 : Below w.heap.size w w3 := bel1.trans (bel3.mono hs1); clear own3 sl3 bel3)
    | (go_at_call 21; go_loud (with_reducible refine (refdecode_any A n c l _ H3.out h1 h2).mono ?_); rintro e w4 ⟨v4, rfl, own4, bel4⟩; obtain ⟨A4, c4, rfl, _, _, sl4⟩ := own4.isSlB; have SL4 := Lib.hid sl4; have hs4 := bel4.size; have SLD4 := Lib.hid ((SL3.out.below bel4).more hs4); have bw4 : Below w.heap.size w w4 := bw3.trans (bel4.mono (by omega)); clear own4 sl4 bel4)
    | (go_at_call 14; (with_reducible refine (awake02_any _).mono ?_); rintro e w5 ⟨rfl, bel5⟩; have hs5 := bel5.size; have bw5 : Below w.heap.size w w5 := bw4.trans (bel5.mono (by omega)); have SLD5 := Lib.hid ((SLD4.out.below bel5).more hs5); have SL5 := Lib.hid ((SL4.out.below bel5).more hs5); clear bel5)
    | (go_at_call 22; go_loud (with_reducible refine (plain_fld _ _ _ _ _ _ (decV l) _ SLD5.out SL5.out (decV_small l)).mono ?_); rintro e w6 ⟨rfl, bel6⟩)
    | fail)
  all_goals go_outline
  go_ret
  exact ⟨rfl, bw5.trans (bel6.mono (by omega))⟩
end Go.Proofs.Ytfpmpihojjegbaa
