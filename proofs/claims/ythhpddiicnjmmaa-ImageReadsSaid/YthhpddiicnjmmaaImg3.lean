/- Contract: image.Encode. Written by gen_img3.py. -/
import Derived.Test.YthhpddiicnjmmaaImg1
import Derived.Test.YthhpddiicnjmmaaPce2
import Derived.Test.YthhpddiicnjmmaaRefP
import Derived.Test.YthhpddiicnjmmaaFld5
import Derived.Test.YthhpddiicnjmmaaRec3
set_option linter.unusedVariables false
set_option linter.unusedSimpArgs false
set_option maxRecDepth 100000
namespace Go.Proofs.Ythhpddiicnjmmaa
open Go.RowKit

theorem tabs_snoc {T : List (List Row)} {k : Nat} {l : List Row} (h : T[k]? = some l) : (T.take (k + 1)).flatMap tabF = (T.take k).flatMap tabF ++ tabF l := by rw [take_snoc h, List.flatMap_append]; simp
theorem rows_snoc {l : List Row} {k : Nat} {r : Row} (h : l[k]? = some r) : (l.take (k + 1)).flatMap rowF = (l.take k).flatMap rowF ++ [numF r.key, txtF r.val] := by rw [take_snoc h, List.flatMap_append]; simp [rowF]
theorem one_i64 {n : Int} (h : I64 n) : ∀ y ∈ [n], I64 y := by intro y hy; obtain rfl : y = n := (by simpa using hy); exact h
theorem one_int {w : World} {x : Int} (hx : ∀ y ∈ [x], I64 y) (t : TypeId) {d : Nat} (hd : d = w.heap.size) : IsSl intRep (w.alloc (.cells #[.int .i64 x] t)) (· < (w.alloc (.cells #[.int .i64 x] t)).heap.size) (some ⟨d, 0, none⟩) 1 [x] := by
  subst hd
  exact IsSl.newInts (w := w) (cs := #[.int .i64 x]) [x] hx rfl rfl (by simp)
theorem img_out {x : Img} (h : mayImg x = false) : imgE x = 1 ∧ imgV x = [] := by
  unfold imgE imgV
  rw [h]
  exact ⟨rfl, rfl⟩
theorem img_in {x : Img} (h : mayImg x = true) : imgE x = 0 ∧ imgV x = putB (encB (fieldsG x)) ∧ putE (encB (fieldsG x)) = 0 ∧ putV (encB (fieldsG x)) = putB (encB (fieldsG x)) := by
  have hl := encG_len h
  refine ⟨if_pos h, if_pos h, ?_, ?_⟩
  · exact if_pos (by omega)
  · exact if_pos (by omega)

set_option maxHeartbeats 16000000 in
theorem imgEncode_any (lsn : Int) (hlsn : I64 lsn) (A : Option Addr) (n c : Nat) (T : List (List Row)) (w : World) (h : IsSl (sliceRep rowRep) w (· < w.heap.size) A n T) :
    Calls Try.prog 13 #[.int .i64 lsn, .slice A n c] w fun e w' => ∃ v, e = .returned (.tuple #[v, .int .i64 (imgE (lsn, T))]) ∧ Own byteRep w' w.heap.size (fun _ => False) 5 v (imgV (lsn, T)) ∧ Below w.heap.size w w' := by
  obtain ⟨i0, hi, hz0, hz1, hz2⟩ := info_parts info_fld
  have HH := Lib.hid h
  have HL := Lib.hid h.len
  clear h
  cases hmay : mayImg (lsn, T)
  · have HM := Lib.hid hmay
    have HO := Lib.hid (img_out hmay)
    clear hmay
    go_enter Try.func13, Try.ntmps13
    go_wp2_with (first
      | (go_at_call 49; (with_reducible refine (imgMay_any lsn A n c T w HH.out).mono ?_); rintro e w1 ⟨rfl, bel1⟩; rw [HM.out]; have B1 := Lib.hid bel1; clear bel1)
      | fail)
    go_ret2
    rw [HO.out.1, HO.out.2]
    exact ⟨_, rfl, Own.nil _ _ _ (fun _ h => h.elim) _ _, B1.out⟩
  · have HM := Lib.hid hmay
    have HI := Lib.hid (img_in hmay)
    have HE := Lib.hid (img_enc hmay)
    have hel := encG_len hmay
    obtain ⟨p1, p2, p3, p4, p5⟩ := mayImg_parts hmay
    have HR := Lib.hid (show ∀ l ∈ T, l.length ≤ 1000 ∧ ∀ r ∈ l, 1 ≤ r.key ∧ r.key ≤ 1099511627776 ∧ r.val.size ≤ 32 from fun l hl => mayRows_parts (p5 l hl))
    have hn8 : n ≤ 8 := by rw [HL.out]; exact p4
    have HFG := Lib.hid (show fieldsG (lsn, T) = [numF lsn, numF (n : Int)] ++ T.flatMap tabF by rw [HL.out]; rfl)
    obtain ⟨F0, hF0⟩ : ∃ F0, F0 = [numF lsn, numF (n : Int)] := ⟨_, rfl⟩
    have hF0l : F0.length = 2 := by rw [hF0]; rfl
    have HF0 := Lib.hid hF0
    have HWI := Lib.hid (show ∀ y ∈ [lsn, (n : Int)], I64 y by
      intro y hy
      simp only [List.mem_cons, List.not_mem_nil, or_false] at hy
      rcases hy with rfl | rfl
      · exact hlsn
      · unfold I64; omega)
    obtain ⟨P, hP⟩ : ∃ P, P = encB (fieldsG (lsn, T)) := ⟨_, rfl⟩
    rw [← hP] at hel HI HE
    clear hmay p1 p2 p3 p4 p5 hF0 hP hlsn
    go_enter Try.func13, Try.ntmps13
    go_wp2_with (first
      | (go_at_call 49; (with_reducible refine (imgMay_any lsn A n c T w HH.out).mono ?_); rintro e w1 ⟨rfl, bel1⟩; rw [HM.out]; have B1 := Lib.hid bel1; clear bel1)
      | (go_at_call 50; (with_reducible refine (ints_any _ 2 2 [lsn, (n : Int)] _ (IsSl.newInts (w := w1) (cs := #[.int .i64 lsn, .int .i64 (n : Int)]) [lsn, (n : Int)] HWI.out rfl rfl (by simp)) (by omega)).mono ?_); rintro e w2 ⟨v2, rfl, own2, bel2⟩; have OW2 := Lib.hid (own2.mono (show w.heap.size ≤ _ from Nat.le_trans B1.out.size (by simp))); have B2 := Lib.hid (bel_n (B1.out.alloc B1.out.size _) bel2); clear own2 bel2)
      | fail)
    rw [show [lsn, (n : Int)].map numF = F0 from HF0.out.symm] at OW2
    go_loopw [6, 24] (fun v i wr => ∃ k : Nat, i = .int .i64 k ∧ k ≤ n ∧ Own fldRep wr w.heap.size (fun _ => False) 41 v (F0 ++ (T.take k).flatMap tabF) ∧ Below w.heap.size w wr) (fun _ i _ => n - (intOf i).toNat)
    case atStart => exact ⟨0, rfl, Nat.zero_le _, by simpa using OW2.out, B2.out⟩
    case round =>
      obtain ⟨wo, rfl⟩ : ∃ x : World, x = wr := ⟨_, rfl⟩
      obtain ⟨k, rfl, hk, hown, hbel⟩ := hrel
      have BE := Lib.hid hbel
      have hsz := hbel.size
      obtain ⟨B, hB⟩ : ∃ B, B = F0 ++ (T.take k).flatMap tabF := ⟨_, rfl⟩
      have hBl : B.length ≤ 16010 := by
        have := tabsF_len (T.take k) (fun l hl => (HR.out l (List.mem_of_mem_take hl)).1)
        rw [List.length_take] at this
        rw [hB, List.length_append, hF0l]
        omega
      rw [← hB] at hown
      have OW := Lib.hid hown
      have HB := Lib.hid hB
      clear hown hbel hB
      by_cases hlt : k < n
      · obtain ⟨b, off, l, A1, n1, c1, rfl, hb, hx, s1, l1, m1, hc0⟩ := HH.out.tabI hlt (fun _ _ => rfl)
        have hc := (BE.out.cell (p := ⟨b, off + k, none⟩) hb).trans hc0
        have hd : decide ((k : Int) < (n : Int)) = true := decide_eq_true (by omega)
        have hkm : (k : Int) < (n : Int) := by omega
        have hk0 : (0 : Int) ≤ (k : Int) := by omega
        have S1 := Lib.hid s1
        have HL1 := Lib.hid s1.len
        have hlm : l ∈ T := List.mem_of_getElem? hx
        have HRL := Lib.hid (HR.out l hlm)
        have hn1 : n1 ≤ 1000 := by rw [HL1.out]; exact HRL.out.1
        have HSN := Lib.hid (tabs_snoc hx)
        have HWN := Lib.hid (one_i64 (n := (n1 : Int)) (by unfold I64; omega))
        clear hx s1 hlm hc0
        go_wp2_with (first
          | (go_at_call 50; (with_reducible refine (ints_any _ 1 1 [(n1 : Int)] _ (IsSl.newInts (w := wo) (cs := #[.int .i64 (n1 : Int)]) [(n1 : Int)] HWN.out rfl rfl (by simp)) (by omega)).mono ?_); rintro e w3 ⟨v3, rfl, own3, bel3⟩; have bw3 := ((Below.refl wo.heap.size wo).alloc (Nat.le_refl _) (.cells #[.int .i64 (n1 : Int)] 2)).trans (bel3.mono (by simp)); have OW3 := Lib.hid (OW.out.below bw3); have B3 := Lib.hid (bel_n BE.out bw3); obtain ⟨A3, c3, rfl, hlc3, hcm3, hsrc3⟩ := own3.srcOf; have HS3 := Lib.hid (show Src fldRep w3 (fun _ => False) A3 1 ([(n1 : Int)].map numF) from hsrc3 w3 (fun _ => False) flat_fld (Below.refl _ _)); have hs3 := B3.out.size; clear own3 bel3 bw3 hsrc3)
          | (at_builtin; refine wpList_append_Own _ rfl _ _ 38 rfl w.heap.size 41 i0 _ 32 Try.underlying38 hi hz0 hz1 hz2 rfl (R := fldRep) (S := fun _ => False) (l := B) (l' := [(n1 : Int)].map numF) u6 rfl OW3.out A3 1 c3 rfl HS3.out (by simp only [maxLen]; omega) (by omega) (by omega) hs3 ?_; intro v4 w4 own4 gr4 at4; have OW4 := Lib.hid own4; have B4 := Lib.hid (B3.out.grown gr4 hs3 (fun g hg => OW3.out.row_ge hg)); clear own4 gr4 at4)
          | fail)
        obtain ⟨C, hC⟩ : ∃ C, C = B ++ [(n1 : Int)].map numF := ⟨_, rfl⟩
        rw [← hC] at OW4
        have hCl : C.length ≤ 16011 := by rw [hC, List.length_append]; simp; omega
        have HC := Lib.hid hC
        clear hC hc
        go_loopw [6, 36] (fun v i wr => ∃ p : Nat, i = .int .i64 p ∧ p ≤ n1 ∧ Own fldRep wr w.heap.size (fun _ => False) 41 v (C ++ (l.take p).flatMap rowF) ∧ Below w.heap.size w wr) (fun _ i _ => n1 - (intOf i).toNat)
        case atStart => exact ⟨0, rfl, Nat.zero_le _, by simpa using OW4.out, B4.out⟩
        case round =>
          obtain ⟨p, rfl, hp, hown, hbel⟩ := hrel
          have BP := Lib.hid hbel
          have hsp := hbel.size
          obtain ⟨D, hD⟩ : ∃ D, D = C ++ (l.take p).flatMap rowF := ⟨_, rfl⟩
          have hDl : D.length ≤ 18011 := by rw [hD, List.length_append, rowsF_len, List.length_take]; omega
          rw [← hD] at hown
          have OD := Lib.hid hown
          have HD := Lib.hid hD
          clear hown hbel hD
          by_cases hlp : p < n1
          · obtain ⟨b2, off2, x, rfl, hb2, hx2, hwf2, c0, c1'⟩ := S1.out.rowI hlp (fun q hq => BP.out.cell hq)
            have hd2 : decide ((p : Int) < (n1 : Int)) = true := decide_eq_true (by omega)
            have hpm : (p : Int) < (n1 : Int) := by omega
            have hp0 : (0 : Int) ≤ (p : Int) := by omega
            have HRS := Lib.hid (rows_snoc hx2)
            obtain ⟨xk, xv⟩ := x
            dsimp only at c0 c1' HRS
            obtain ⟨hwk, hwv⟩ := hwf2
            have HWK := Lib.hid (one_i64 (n := xk) hwk)
            have HXV := Lib.hid (txtF_wf hwv)
            have KB := Lib.hid (Blk.new (w := wr) (cs := #[.int .i64 xk, .string xv]) (t := 80) rfl rfl)
            have bwr := (Below.refl wr.heap.size wr).alloc (Nat.le_refl _) (.cells #[.int .i64 xk, .string xv] 80)
            have BR := Lib.hid (bel_n BP.out bwr)
            have OR := Lib.hid (OD.out.below bwr)
            have HRR : Hid (∀ g, rowOf u6 = some g → g < wr.heap.size) := Lib.hid (fun g hg => OD.out.row_lt hg)
            clear hx2 hwk hwv bwr
            go_wp2_with (first
              | (go_at_call 50; (with_reducible refine (ints_any _ 1 1 [xk] _ (one_int (w := wr.alloc (.cells #[.int .i64 xk, .string xv] 80)) HWK.out 2 (d := wr.heap.size + 1) (by simp)) (by omega)).mono ?_); rintro e w5 ⟨v5, rfl, own5, bel5⟩; have bw5 := ((Below.refl (wr.alloc (.cells #[.int .i64 xk, .string xv] 80)).heap.size (wr.alloc (.cells #[.int .i64 xk, .string xv] 80))).alloc (Nat.le_refl _) (.cells #[.int .i64 xk] 2)).trans (bel5.mono (by simp)); have OW5 := Lib.hid (OR.out.below bw5); have B5 := Lib.hid (bel_n BR.out bw5); have KB5 := Lib.hid (KB.out.after bw5); obtain ⟨A5, c5, rfl, hlc5, hcm5, hsrc5⟩ := own5.srcOf; have HS5 := Lib.hid (show Src fldRep w5 (fun _ => False) A5 1 ([xk].map numF) from hsrc5 w5 (fun _ => False) flat_fld (Below.refl _ _)); have hs5 := B5.out.size; clear own5 bel5 bw5 hsrc5)
              | (at_builtin; refine wpList_append_Own _ rfl _ _ 38 rfl w.heap.size 41 i0 _ 32 Try.underlying38 hi hz0 hz1 hz2 rfl (R := fldRep) (S := fun _ => False) (l := D) (l' := [xk].map numF) u6 rfl OW5.out A5 1 c5 rfl HS5.out (by simp only [maxLen]; omega) (by omega) (by omega) hs5 ?_; intro v6 w6 own6 gr6 at6; have OW6 := Lib.hid own6; have B6 := Lib.hid (B5.out.grown gr6 hs5 (fun g hg => OW5.out.row_ge hg)); have KB6 := Lib.hid (KB5.out.grown gr6 (fun g hg e => by have := HRR.out g hg; omega)); obtain ⟨y0, y1, yz⟩ := KB6.out.c2; clear own6 gr6 at6)
              | (go_at_call 51; (with_reducible refine (ptxt_any xv _).mono ?_); rintro e w7 ⟨rfl, bel7⟩; have OW7 := Lib.hid (OW6.out.below bel7); have B7 := Lib.hid (bel_n B6.out bel7); have hs7 := B7.out.size; clear bel7)
              | (at_builtin; refine wpList_append_Own _ rfl _ _ 38 rfl w.heap.size 41 i0 _ 32 Try.underlying38 hi hz0 hz1 hz2 rfl (R := fldRep) (S := fun _ => False) (l := D ++ [xk].map numF) (l' := [txtF xv]) v6 rfl (OW7.out.alloc _) _ 1 1 rfl ?_ (by rw [List.length_append, List.length_map]; simp only [maxLen, List.length_cons, List.length_nil]; omega) (by rw [List.length_append, List.length_map]; simp only [List.length_cons, List.length_nil]; omega) (by omega) (by simp; omega) ?_; exact Src.new (cs := (txtF xv).cells) ⟨rfl, HXV.out⟩; intro v8 w8 own8 gr8 at8; have OW8 := Lib.hid own8; have B8 := Lib.hid ((B7.out.alloc hs7 _).grown gr8 (by simp; omega) (fun g hg => OW7.out.row_ge hg)); clear own8 gr8 at8)
              | fail)
            go_roundw
            case rel => exact ⟨p + 1, by go_num, by omega, by rw [HRS.out, ← List.append_assoc, ← HD.out]; have h8 := OW8.out; rw [List.append_assoc] at h8; exact h8, B8.out⟩
            case measure => simp [intOf]; omega
          · obtain rfl : p = n1 := by omega
            have hpp : decide ((p : Int) < (p : Int)) = false := by simp
            have HDE := Lib.hid (show D = F0 ++ (T.take (k + 1)).flatMap tabF by
              have e : l.take p = l := List.take_of_length_le (by rw [← HL1.out]; exact Nat.le_refl _)
              rw [HD.out, HSN.out, HC.out, HB.out, e]
              unfold tabF
              rw [← HL1.out]
              simp)
            clear hlp
            go_wp2_with fail
            go_roundw
            case rel => exact ⟨k + 1, by go_num, by omega, by rw [← HDE.out]; exact OD.out, BP.out⟩
            case measure => simp [intOf]; omega
      · obtain rfl : k = n := by omega
        have hkk : decide ((k : Int) < (k : Int)) = false := by simp
        have HBE := Lib.hid (show B = fieldsG (lsn, T) by
          rw [HB.out, HFG.out, HF0.out, List.take_of_length_le (by rw [← HL.out]; exact Nat.le_refl _)])
        obtain ⟨A5, c5, rfl, hlc5, hcm5, sl5⟩ := OW.out.isSlB
        have SL5 := Lib.hid sl5
        obtain ⟨m5, hm5⟩ : ∃ m5, m5 = B.length := ⟨_, rfl⟩
        rw [← hm5] at SL5 hlc5 hBl ⊢
        rw [HBE.out] at SL5
        clear hlt hm5 sl5
        go_wp2_with (first
          | (go_at_call 52; (with_reducible refine (encode_any A5 m5 c5 (fieldsG (lsn, T)) wo SL5.out (by omega)).mono ?_); rintro e w6 ⟨v6, rfl, own6, bel6⟩; rw [HE.out.1]; rw [HE.out.2.1] at own6; obtain ⟨A6, c6, rfl, hlc6, hcm6, sl6⟩ := own6.isSlB; have SL6 := Lib.hid sl6; have B6 := Lib.hid (bel_n BE.out bel6); clear own6 sl6 bel6)
          | (go_at_call 53; (with_reducible refine (put_any A6 P.length c6 P w6 SL6.out hlc6 hcm6).mono ?_); rintro e w7 ⟨v7, rfl, own7, bel7⟩; rw [HI.out.2.2.1]; rw [HI.out.2.2.2, ← HI.out.2.1] at own7; have OW7 := Lib.hid (own7.mono B6.out.size); have B7 := Lib.hid (bel_n B6.out bel7); clear own7 bel7)
          | fail)
        go_ret2
        rw [HI.out.1]
        exact ⟨_, rfl, OW7.out, B7.out⟩
end Go.Proofs.Ythhpddiicnjmmaa
