/- Contract: ref07.Image. Written by gen_img3.py. -/
import Derived.Test.YthhpddiicnjmmaaImg3
import Derived.Test.YthhpddiicnjmmaaImg2
import Derived.Test.YthhpddiicnjmmaaFld6
import Derived.Test.YthhpddiicnjmmaaRec4
set_option linter.unusedVariables false
set_option linter.unusedSimpArgs false
set_option maxRecDepth 100000
namespace Go.Proofs.Ythhpddiicnjmmaa
open Go.RowKit

theorem IsSl.srcAll {α : Type} {R : Rep α} {w : World} {S T : Nat → Prop} {A : Option Addr} {n : Nat} {l : List α} (hf : Flat R) (h : IsSl R w T A n l) : Src R w S A n l := by
  obtain ⟨h1, xss, h2, h3⟩ := h
  exact ⟨h1, xss, h2.flat hf, h3.weak fun _ _ => trivial⟩

set_option maxHeartbeats 16000000 in
theorem refImage_any (lsn : Int) (hlsn : I64 lsn) (A : Option Addr) (n c : Nat) (T : List (List Row)) (w : World) (h : IsSl (sliceRep rowRep) w (· < w.heap.size) A n T) :
    Calls Try.prog 14 #[.int .i64 lsn, .slice A n c] w fun e w' => ∃ v, e = .returned (.tuple #[v, .int .i64 (imgE (lsn, T))]) ∧ Own byteRep w' w.heap.size (fun _ => False) 5 v (imgV (lsn, T)) ∧ Below w.heap.size w w' := by
  obtain ⟨i0, hi, hz0, hz1, hz2⟩ := info_parts info_fld
  have HH := Lib.hid h
  have HL := Lib.hid h.len
  clear h
  cases hmay : mayImg (lsn, T)
  · have HM := Lib.hid hmay
    have HO := Lib.hid (img_out hmay)
    clear hmay
    go_enter Try.func14, Try.ntmps14
    go_wp2_with (first
      | (go_at_call 54; (with_reducible refine (refMayImage_any lsn A n c T w HH.out).mono ?_); rintro e w1 ⟨rfl, bel1⟩; rw [HM.out]; have B1 := Lib.hid bel1; clear bel1)
      | fail)
    go_ret2
    rw [HO.out.1, HO.out.2]
    exact ⟨_, rfl, Own.nil _ _ _ (fun _ h => h.elim) _ _, B1.out⟩
  · have HM := Lib.hid hmay
    have HI := Lib.hid (img_in hmay)
    have HE := Lib.hid (img_enc hmay)
    have hel := encG_len hmay
    obtain ⟨p1, p2, p3, p4, p5⟩ := mayImg_parts hmay
    have HR := Lib.hid (show ∀ l ∈ T, l.length ≤ 1000 ∧ ∀ r ∈ l, 1 ≤ r.key ∧ r.key ≤ 1099511627776 ∧ r.val.size ≤ 32 from fun l hl => mayRows_parts (p5 l hl))
    have hn8 : n ≤ 8 := by rw [HL.out]; exact p4
    have HFG := Lib.hid (show fieldsG (lsn, T) = [numF lsn, numF (n : Int)] ++ T.flatMap tabF by rw [HL.out]; rfl)
    obtain ⟨F0, hF0⟩ : ∃ F0, F0 = [numF lsn, numF (n : Int)] := ⟨_, rfl⟩
    have hF0l : F0.length = 2 := by rw [hF0]; rfl
    have HF0 := Lib.hid hF0
    have HWF := Lib.hid (show ∀ y ∈ [numF lsn, numF (n : Int)], y.wf by
      intro y hy
      simp only [List.mem_cons, List.not_mem_nil, or_false] at hy
      rcases hy with rfl | rfl
      · exact numF_wf hlsn
      · exact numF_wf (by unfold I64; omega))
    have HWI := Lib.hid (show ∀ y ∈ [lsn, (n : Int)], I64 y by
      intro y hy
      simp only [List.mem_cons, List.not_mem_nil, or_false] at hy
      rcases hy with rfl | rfl
      · exact hlsn
      · unfold I64; omega)
    obtain ⟨P, hP⟩ : ∃ P, P = encB (fieldsG (lsn, T)) := ⟨_, rfl⟩
    rw [← hP] at hel HI HE
    clear hmay p1 p2 p3 p4 p5 hF0 hP hlsn
    go_enter Try.func14, Try.ntmps14
    go_wp2_with (first
      | (go_at_call 54; (with_reducible refine (refMayImage_any lsn A n c T w HH.out).mono ?_); rintro e w1 ⟨rfl, bel1⟩; rw [HM.out]; have B1 := Lib.hid bel1; clear bel1)
      | (go_at_call 22; (with_reducible refine (num_any lsn w1).mono ?_); rintro e w2 ⟨rfl, bel2⟩; have B2 := Lib.hid (bel_n B1.out bel2); clear bel2)
      | (go_at_call 22; (with_reducible refine (num_any (n : Int) w2).mono ?_); rintro e w3 ⟨rfl, bel3⟩; have B3 := Lib.hid (bel_n B2.out bel3); clear bel3)
      | fail)
    have OV := Lib.hid (Own.litF (w := w3) (base := w.heap.size) (t := 41) [numF lsn, numF (n : Int)] HWF.out (cs := #[.int .i64 1, .int .i64 lsn, .string ByteArray.empty, .int .i64 1, .int .i64 (n : Int), .string ByteArray.empty]) rfl (n := 2) rfl B3.out.size (by simp [maxLen]))
    have BV := Lib.hid (B3.out.alloc B3.out.size (.cells #[.int .i64 1, .int .i64 lsn, .string ByteArray.empty, .int .i64 1, .int .i64 (n : Int), .string ByteArray.empty] 41))
    rw [show [numF lsn, numF (n : Int)] = F0 from HF0.out.symm] at OV
    go_loopw [6, 7] (fun v i wr => ∃ k : Nat, i = .int .i64 k ∧ k ≤ n ∧ Own fldRep wr w.heap.size (fun _ => False) 41 v (F0 ++ (T.take k).flatMap tabF) ∧ Below w.heap.size w wr) (fun _ i _ => n - (intOf i).toNat)
    case atStart => exact ⟨0, rfl, Nat.zero_le _, by simpa using OV.out, BV.out⟩
    case round =>
      obtain ⟨wo, rfl⟩ : ∃ x : World, x = wr := ⟨_, rfl⟩
      obtain ⟨k, rfl, hk, hown, hbel⟩ := hrel
      have BE := Lib.hid hbel
      have hsz := hbel.size
      obtain ⟨B, hB⟩ : ∃ B, B = F0 ++ (T.take k).flatMap tabF := ⟨_, rfl⟩
      have hBl : B.length ≤ 16010 := by
        have := tabsF_len (T.take k) (fun l hl => (HR.out l (List.mem_of_mem_take hl)).1)
        rw [List.length_take] at this
        rw [hB, List.length_append, hF0l]
        omega
      rw [← hB] at hown
      have OW := Lib.hid hown
      have HB := Lib.hid hB
      clear hown hbel hB
      by_cases hlt : k < n
      · obtain ⟨b, off, l, A1, n1, c1, rfl, hb, hx, s1, l1, m1, hc0⟩ := HH.out.tabI hlt (fun _ _ => rfl)
        have hc := (BE.out.cell (p := ⟨b, off + k, none⟩) hb).trans hc0
        have HC0 := Lib.hid hc0
        have hd : decide ((k : Int) < (n : Int)) = true := decide_eq_true (by omega)
        have hkm : (k : Int) < (n : Int) := by omega
        have hk0 : (0 : Int) ≤ (k : Int) := by omega
        have S1 := Lib.hid s1
        have HL1 := Lib.hid s1.len
        have hlm : l ∈ T := List.mem_of_getElem? hx
        have HRL := Lib.hid (HR.out l hlm)
        have hn1 : n1 ≤ 1000 := by rw [HL1.out]; exact HRL.out.1
        have HSN := Lib.hid (tabs_snoc hx)
        have HWN := Lib.hid (show (numF (n1 : Int)).wf from numF_wf (by unfold I64; omega))
        clear hx s1 hlm hc0
        go_wp2_with (first
          | (go_at_call 22; (with_reducible refine (num_any (n1 : Int) wo).mono ?_); rintro e w3' ⟨rfl, bel3⟩; have OW3 := Lib.hid (OW.out.below bel3); have B3' := Lib.hid (bel_n BE.out bel3); have hs3 := B3'.out.size; clear bel3)
          | (at_builtin; refine wpList_append_Own _ rfl _ _ 38 rfl w.heap.size 41 i0 _ 32 Try.underlying38 hi hz0 hz1 hz2 rfl (R := fldRep) (S := fun _ => False) (l := B) (l' := [numF (n1 : Int)]) u6 rfl (OW3.out.alloc _) _ 1 1 rfl (Src.new (cs := (numF (n1 : Int)).cells) ⟨rfl, HWN.out⟩) (by simp only [maxLen]; omega) (by omega) (by omega) (by simp; omega) ?_; intro v4 w4 own4 gr4 at4; have OW4 := Lib.hid own4; have B4 := Lib.hid ((B3'.out.alloc hs3 _).grown gr4 (by simp; omega) (fun g hg => OW3.out.row_ge hg)); clear own4 gr4 at4)
          | fail)
        obtain ⟨C, hC⟩ : ∃ C, C = B ++ [numF (n1 : Int)] := ⟨_, rfl⟩
        rw [← hC] at OW4
        have hCl : C.length ≤ 16011 := by rw [hC, List.length_append]; simp; omega
        have HC := Lib.hid hC
        clear hC hc
        go_loopw [6, 8] (fun v i wr => ∃ p : Nat, i = .int .i64 p ∧ p ≤ n1 ∧ Own fldRep wr w.heap.size (fun _ => False) 41 v (C ++ (l.take p).flatMap rowF) ∧ Below w.heap.size w wr) (fun _ i _ => n1 - (intOf i).toNat)
        case atStart => exact ⟨0, rfl, Nat.zero_le _, by simpa using OW4.out, B4.out⟩
        case round =>
          obtain ⟨p, rfl, hp, hown, hbel⟩ := hrel
          have BP := Lib.hid hbel
          have hsp := hbel.size
          obtain ⟨D, hD⟩ : ∃ D, D = C ++ (l.take p).flatMap rowF := ⟨_, rfl⟩
          have hDl : D.length ≤ 18011 := by rw [hD, List.length_append, rowsF_len, List.length_take]; omega
          rw [← hD] at hown
          have OD := Lib.hid hown
          have HD := Lib.hid hD
          have hc := (BP.out.cell (p := ⟨b, off + k, none⟩) hb).trans HC0.out
          clear hown hbel hD
          by_cases hlp : p < n1
          · obtain ⟨b2, off2, x, rfl, hb2, hx2, hwf2, c0, c1'⟩ := S1.out.rowI hlp (fun _ _ => rfl)
            have hd2 : decide ((p : Int) < (n1 : Int)) = true := decide_eq_true (by omega)
            have hpm : (p : Int) < (n1 : Int) := by omega
            have hp0 : (0 : Int) ≤ (p : Int) := by omega
            have HRS := Lib.hid (rows_snoc hx2)
            obtain ⟨xk, xv⟩ := x
            dsimp only at c0 c1' HRS
            obtain ⟨hwk, hwv⟩ := hwf2
            have HWX := Lib.hid (show ∀ y ∈ [numF xk, txtF xv], y.wf by
              intro y hy
              simp only [List.mem_cons, List.not_mem_nil, or_false] at hy
              rcases hy with rfl | rfl
              · exact numF_wf hwk
              · exact txtF_wf hwv)
            have HCK := Lib.hid (show ∀ W, Below w.heap.size w W → W.cell? ⟨b, off + k, none⟩ = some (.slice (some ⟨b2, off2, none⟩) n1 c1) ∧ W.cell? ⟨b2, off2 + p * 2, none⟩ = some (.int .i64 xk) ∧ W.cell? ⟨b2, off2 + p * 2 + 1, none⟩ = some (.string xv) from fun W hbW => ⟨(hbW.cell (p := ⟨b, off + k, none⟩) hb).trans HC0.out, (hbW.cell (p := ⟨b2, off2 + p * 2, none⟩) hb2).trans c0, (hbW.cell (p := ⟨b2, off2 + p * 2 + 1, none⟩) hb2).trans c1'⟩)
            have HS0 := Lib.hid (show wr.drew.cell? ⟨b, off + k, none⟩ = some (.slice (some ⟨b2, off2, none⟩) n1 c1) ∧ wr.drew.cell? ⟨b2, off2 + p * 2, none⟩ = some (.int .i64 xk) ∧ wr.drew.cell? ⟨b2, off2 + p * 2 + 1, none⟩ = some (.string xv) from HCK.out _ (below_drewN BP.out 1))
            have OD0 := Lib.hid OD.out.drew
            have BP0 := Lib.hid (below_drewN BP.out 1)
            clear hx2 hwk hwv c0 c1'
            go_wp2_with fail
            go_region_held3 (fun w' => w'.cell? ⟨b, off + k, none⟩ = some (.slice (some ⟨b2, off2, none⟩) n1 c1) ∧ w'.cell? ⟨b2, off2 + p * 2, none⟩ = some (.int .i64 xk) ∧ w'.cell? ⟨b2, off2 + p * 2 + 1, none⟩ = some (.string xv)) (first | with_reducible exact HS0.out | with_reducible exact HS5.out | with_reducible exact HS6.out | with_reducible exact HS7.out | with_reducible exact HS8.out)
              (first
                | (go_at_call 22; (with_reducible refine (num_any xk wr.drew).mono ?_); rintro e w5 ⟨rfl, bel5⟩; have B5 := Lib.hid (bel_n BP0.out bel5); have O5 := Lib.hid (OD0.out.below bel5); have HS5 := Lib.hid (HCK.out w5 B5.out); clear bel5)
                | (go_at_call 22; (with_reducible refine (num_any xk w5).mono ?_); rintro e w6 ⟨rfl, bel6⟩; have B6 := Lib.hid (bel_n B5.out bel6); have O6 := Lib.hid (O5.out.below bel6); have HS6 := Lib.hid (HCK.out w6 B6.out); have HS7 := Lib.hid (HCK.out (w6.alloc (.cells #[.int .i64 1, .int .i64 xk, .string ByteArray.empty, .int .i64 2, .int .i64 0, .string xv] 41)) (B6.out.alloc B6.out.size _)); clear bel6)
                | (go_at_call 55; (with_reducible refine (text_any xv wr.drew).mono ?_); rintro e w5 ⟨rfl, bel5⟩; have B5 := Lib.hid (bel_n BP0.out bel5); have O5 := Lib.hid (OD0.out.below bel5); have HS5 := Lib.hid (HCK.out w5 B5.out); clear bel5)
                | (go_at_call 55; (with_reducible refine (text_any xv w5).mono ?_); rintro e w6 ⟨rfl, bel6⟩; have B6 := Lib.hid (bel_n B5.out bel6); have O6 := Lib.hid (O5.out.below bel6); have HS6 := Lib.hid (HCK.out w6 B6.out); have HS7 := Lib.hid (HCK.out (w6.alloc (.cells #[.int .i64 1, .int .i64 xk, .string ByteArray.empty, .int .i64 2, .int .i64 0, .string xv] 41)) (B6.out.alloc B6.out.size _)); clear bel6)
                | (refine step_append_Own _ rfl (.tmp 45) (.tmp 64) 38 rfl w.heap.size 41 i0 _ 32 Try.underlying38 hi hz0 hz1 hz2 rfl (R := fldRep) (S := fun _ => False) (l := D) (l' := [numF xk, txtF xv]) u6 rfl (O6.out.alloc _) _ 2 2 rfl (IsSl.srcAll flat_fld (IsSl.newFlds (S := fun _ => True) [numF xk, txtF xv] HWX.out rfl rfl trivial)) (by simp only [maxLen]; omega) (by omega) (by omega) (by simp; have := B6.out.size; omega) ?_; intro v8 w8 own8 gr8 at8; have OW8 := Lib.hid own8; have B8 := Lib.hid ((B6.out.alloc B6.out.size _).grown gr8 (by simp; have := B6.out.size; omega) (fun g hg => O6.out.row_ge hg)); have HS8 := Lib.hid (HCK.out w8 B8.out); clear own8 gr8 at8)
                | fail)
            all_goals
              go_wp2_with fail
              go_roundw
              case rel => exact ⟨p + 1, by go_num, by omega, by rw [HRS.out, ← List.append_assoc, ← HD.out]; exact OW8.out, B8.out⟩
              case measure => simp [intOf]; omega
          · obtain rfl : p = n1 := by omega
            have hpp : decide ((p : Int) < (p : Int)) = false := by simp
            have HDE := Lib.hid (show D = F0 ++ (T.take (k + 1)).flatMap tabF by
              have e : l.take p = l := List.take_of_length_le (by rw [← HL1.out]; exact Nat.le_refl _)
              rw [HD.out, HSN.out, HC.out, HB.out, e]
              unfold tabF
              rw [← HL1.out]
              simp)
            clear hlp
            go_wp2_with fail
            go_roundw
            case rel => exact ⟨k + 1, by go_num, by omega, by rw [← HDE.out]; exact OD.out, BP.out⟩
            case measure => simp [intOf]; omega
      · obtain rfl : k = n := by omega
        have hkk : decide ((k : Int) < (k : Int)) = false := by simp
        have HBE := Lib.hid (show B = fieldsG (lsn, T) by
          rw [HB.out, HFG.out, HF0.out, List.take_of_length_le (by rw [← HL.out]; exact Nat.le_refl _)])
        obtain ⟨A5, c5, rfl, hlc5, hcm5, sl5⟩ := OW.out.isSlB
        have SL5 := Lib.hid sl5
        obtain ⟨m5, hm5⟩ : ∃ m5, m5 = B.length := ⟨_, rfl⟩
        rw [← hm5] at SL5 hlc5 hBl ⊢
        rw [HBE.out] at SL5
        clear hlt hm5 sl5
        go_wp2_with (first
          | (go_at_call 56; (with_reducible refine (refencode_any A5 m5 c5 (fieldsG (lsn, T)) wo SL5.out (by omega)).mono ?_); rintro e w6 ⟨v6, rfl, own6, bel6⟩; rw [HE.out.1]; rw [HE.out.2.1] at own6; obtain ⟨A6, c6, rfl, hlc6, hcm6, sl6⟩ := own6.isSlB; have SL6 := Lib.hid sl6; have B6 := Lib.hid (bel_n BE.out bel6); clear own6 sl6 bel6)
          | (go_at_call 57; (with_reducible refine (refput_any A6 P.length c6 P w6 SL6.out hlc6 hcm6).mono ?_); rintro e w7 ⟨v7, rfl, own7, bel7⟩; rw [HI.out.2.2.1]; rw [HI.out.2.2.2, ← HI.out.2.1] at own7; have OW7 := Lib.hid (own7.mono B6.out.size); have B7 := Lib.hid (bel_n B6.out bel7); clear own7 bel7)
          | fail)
        go_ret2
        rw [HI.out.1]
        exact ⟨_, rfl, OW7.out, B7.out⟩
end Go.Proofs.Ythhpddiicnjmmaa
