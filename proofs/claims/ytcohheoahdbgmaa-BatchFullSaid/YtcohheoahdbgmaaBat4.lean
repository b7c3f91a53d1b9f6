/- Contract: batch.Encode. Written by gen_bat4.py. -/
import Derived.Test.YtcohheoahdbgmaaBat2
import Derived.Test.YtcohheoahdbgmaaHelpI
set_option linter.unusedVariables false
set_option linter.unusedSimpArgs false
namespace Go.Proofs.Ytcohheoahdbgmaa
open Go.RowKit

set_option maxRecDepth 100000 in
set_option maxHeartbeats 16000000 in
theorem batEncode_any (x : Item) (A : Option Addr) (n c : Nat) (A2 : Option Addr) (n2 c2 : Nat) (w : World) (h : IsSl oprRep w (· < w.heap.size) A n x.ops) (h2 : IsSl noteRep w (· < w.heap.size) A2 n2 x.notes) (hm1 : n ≤ c) (hm2 : c ≤ maxLen) (hm3 : n2 ≤ c2) (hm4 : c2 ≤ maxLen) (hwl : I64 x.lsn) :
    Calls Try.prog 18 #[.agg #[.int .i64 x.lsn, .slice A n c, .slice A2 n2 c2]] w fun e w' => ∃ v, e = .returned (.tuple #[v, .int .i64 (encIE x)]) ∧ Own byteRep w' w.heap.size (fun _ => False) 5 v (encIV x) ∧ Below w.heap.size w w' := by
  have H := Lib.hid h
  have H2 := Lib.hid h2
  have HL := Lib.hid h.len
  have HL2 := Lib.hid h2.len
  have HC := Lib.hid (And.intro hm1 (And.intro hm2 (And.intro hm3 hm4)))
  clear h h2 hm1 hm2 hm3 hm4
  obtain ⟨i0, hi, hz0, hz1, hz2⟩ := info_parts info_fld
  have bw0 : ∀ o, Below w.heap.size w (w.alloc o) := fun o => (Below.refl _ _).alloc (Nat.le_refl _) o
  cases hmay : mayItem x
  · have HM := Lib.hid hmay
    clear hmay
    go_enter Try.func18, Try.ntmps18
    go_wp2_with (first
      | (go_at_call 20; (with_reducible refine (batMay_any x A n c A2 n2 c2 _ ((H.out.below (bw0 _)).more (by simp)) ((H2.out.below (bw0 _)).more (by simp)) HC.out.1 HC.out.2.1 HC.out.2.2.1 HC.out.2.2.2).mono ?_); rintro e w2 ⟨rfl, bel2⟩; rw [HM.out])
      | fail)
    go_ret2
    exact ⟨_, by unfold encIE encGE; rw [HM.out]; rfl, by unfold encIV encGV; rw [HM.out]; exact Own.nil _ _ _ (fun _ h => h.elim) _ _, (bw0 _).trans (bel2.mono (by simp))⟩
  · obtain ⟨hp1, hp2, hn1, hn2, -, -⟩ := mayItem_parts hmay
    rw [← HL.out] at hn1
    rw [← HL2.out] at hn2
    have HM := Lib.hid hmay
    clear hmay
    obtain ⟨xl, l1, l2⟩ := x
    dsimp only at *
    have HWX := Lib.hid hwl
    have HW2 := Lib.hid (show ∀ y ∈ [xl, (n : Int)], I64 y by
      intro y hy
      simp only [List.mem_cons, List.not_mem_nil, or_false] at hy
      rcases hy with rfl | rfl
      · exact hwl
      · unfold I64; omega)
    clear hwl

    go_enter Try.func18, Try.ntmps18
    go_wp2_with (first
      | (go_at_call 20; (with_reducible refine (batMay_any ⟨xl, l1, l2⟩ A n c A2 n2 c2 _ ((H.out.below (bw0 _)).more (by simp)) ((H2.out.below (bw0 _)).more (by simp)) HC.out.1 HC.out.2.1 HC.out.2.2.1 HC.out.2.2.2).mono ?_); rintro e w2 ⟨rfl, bel2⟩; rw [HM.out]; have g0 : w2.cell? ⟨w.heap.size, 0, none⟩ = some (.int .i64 xl) := (bel2.cell (p := ⟨w.heap.size, 0, none⟩) (by simp)).trans (World.cell?_alloc_at _ _ _ _ rfl); have g1 : w2.cell? ⟨w.heap.size, 1, none⟩ = some (.slice A n c) := (bel2.cell (p := ⟨w.heap.size, 1, none⟩) (by simp)).trans (World.cell?_alloc_at _ _ _ _ rfl); have g2 : w2.cell? ⟨w.heap.size, 2, none⟩ = some (.slice A2 n2 c2) := (bel2.cell (p := ⟨w.heap.size, 2, none⟩) (by simp)).trans (World.cell?_alloc_at _ _ _ _ rfl); have hs2 := bel2.size; simp at hs2; have BEL2 := Lib.hid bel2; clear bel2)
      | (go_at_call 40; (with_reducible refine (ints_any _ 2 2 [xl, (n : Int)] _ (IsSl.newInts (cs := #[.int .i64 xl, .int .i64 (n : Int)]) [xl, (n : Int)] HW2.out rfl rfl (by simp)) (by omega)).mono ?_); rintro e w3 ⟨v3, rfl, own3, bel3⟩; have hs3 : w.heap.size + 1 ≤ w3.heap.size := Nat.le_trans hs2 (Nat.le_trans (by simp) bel3.size); have BEL3 := Lib.hid (BEL2.out.trans ((((Below.refl _ _).alloc (Nat.le_refl _) _).trans (bel3.mono (by simp))).mono BEL2.out.size)); have k1 : w3.cell? ⟨w.heap.size, 1, none⟩ = some (.slice A n c) := (BEL3.out.cell (p := ⟨w.heap.size, 1, none⟩) (by simp)).trans (World.cell?_alloc_at _ _ _ _ rfl); have k2 : w3.cell? ⟨w.heap.size, 2, none⟩ = some (.slice A2 n2 c2) := (BEL3.out.cell (p := ⟨w.heap.size, 2, none⟩) (by simp)).trans (World.cell?_alloc_at _ _ _ _ rfl); have OW3 := Lib.hid (own3.mono (show (w.heap.size + 1) ≤ _ from Nat.le_trans hs2 (by simp))); clear own3 bel3 g0 g1 g2)
      | fail)
    obtain ⟨W, hW⟩ : ∃ W, W = w.alloc (.cells #[.int .i64 xl, .slice A n c, .slice A2 n2 c2] 25) := ⟨_, rfl⟩
    have hWs : W.heap.size = w.heap.size + 1 := by rw [hW]; simp
    have belW : Below w.heap.size w W := by rw [hW]; exact bw0 _
    have d2 : W.cell? ⟨w.heap.size, 2, none⟩ = some (.slice A2 n2 c2) := by rw [hW]; exact World.cell?_alloc_at _ _ _ _ rfl
    rw [← hW] at BEL3
    rw [← hWs] at OW3 hs3
    have hgW : w.heap.size < W.heap.size := by omega
    clear BEL2 hs2 hW hWs
    obtain ⟨F0, hF0⟩ : ∃ F0, F0 = [numF xl, numF (n : Int)] := ⟨_, rfl⟩
    rw [show [xl, (n : Int)].map numF = F0 from hF0.symm] at OW3
    have hF0l : F0.length = 2 := by rw [hF0]; rfl
    have HF0 := Lib.hid hF0
    clear hF0
    clear k1 k2
    go_loopw [4, 22] (fun v i wr => ∃ k : Nat, i = .int .i64 k ∧ k ≤ n ∧ Own fldRep wr W.heap.size (fun _ => False) 71 v (F0 ++ (l1.take k).flatMap oprF) ∧ Below W.heap.size W wr) (fun _ i _ => n - (intOf i).toNat)
    case atStart => exact ⟨0, rfl, Nat.zero_le _, by simpa using OW3.out, BEL3.out⟩
    case round =>
      obtain ⟨k, rfl, hk, hown, hbel⟩ := hrel
      have hs := hbel.size
      obtain ⟨B, hB⟩ : ∃ B, B = F0 ++ (l1.take k).flatMap oprF := ⟨_, rfl⟩
      have hBl : B.length ≤ 2 + 5 * n := by rw [hB, List.length_append, oprF_len, hF0l, List.length_take]; omega
      rw [← hB] at hown
      have HO := Lib.hid hown
      have HB := Lib.hid hB
      skip
      clear hown hB
      by_cases hlt : k < n
      · obtain ⟨b, off, x, rfl, hbS, hx, hwf, c0, c1, c4, c5, c6⟩ := H.out.opr hlt (fun p hp => (hbel.cell (Nat.lt_trans hp hgW)).trans (belW.cell hp))
        obtain ⟨xo, xt, xk, xg, xv⟩ := x
        dsimp only at c0 c1 c4 c5 c6
        have HSN := Lib.hid (flatMap_snoc (f := oprF) hx)
        obtain ⟨hw1, hw2, hw3, hw4⟩ := hwf
        have HWF := Lib.hid (show ∀ y ∈ [xo, xt, xk, bitI xg], I64 y by
          intro y hy
          simp only [List.mem_cons, List.not_mem_nil, or_false] at hy
          rcases hy with rfl | rfl | rfl | rfl
          · exact hw1
          · exact hw2
          · exact hw3
          · exact bitI_wf _)
        have HXV := Lib.hid (txtF_wf hw4)
        clear hx hw1 hw2 hw3 hw4
        go_wp2_with fail
        have a0 : (wr.alloc (.cells #[.int .i64 xo, .int .i64 xt, .int .i64 xk, .bool xg, .string xv] 29)).cell? ⟨wr.heap.size, 0, none⟩ = some (.int .i64 xo) := World.cell?_alloc_at _ _ _ _ rfl
        have a1 : (wr.alloc (.cells #[.int .i64 xo, .int .i64 xt, .int .i64 xk, .bool xg, .string xv] 29)).cell? ⟨wr.heap.size, 1, none⟩ = some (.int .i64 xt) := World.cell?_alloc_at _ _ _ _ rfl
        have a2 : (wr.alloc (.cells #[.int .i64 xo, .int .i64 xt, .int .i64 xk, .bool xg, .string xv] 29)).cell? ⟨wr.heap.size, 2, none⟩ = some (.int .i64 xk) := World.cell?_alloc_at _ _ _ _ rfl
        have a3 : (wr.alloc (.cells #[.int .i64 xo, .int .i64 xt, .int .i64 xk, .bool xg, .string xv] 29)).cell? ⟨wr.heap.size, 3, none⟩ = some (.bool xg) := World.cell?_alloc_at _ _ _ _ rfl
        have a4 : (wr.alloc (.cells #[.int .i64 xo, .int .i64 xt, .int .i64 xk, .bool xg, .string xv] 29)).cell? ⟨wr.heap.size, 4, none⟩ = some (.string xv) := World.cell?_alloc_at _ _ _ _ rfl
        obtain ⟨W1, hW1⟩ : ∃ W1, W1 = (wr.alloc (.cells #[.int .i64 xo, .int .i64 xt, .int .i64 xk, .bool xg, .string xv] 29)) := ⟨_, rfl⟩
        have hW1s : wr.heap.size < W1.heap.size := by rw [hW1]; simp
        have OW1 := Lib.hid (show Own fldRep W1 W.heap.size (fun _ => False) 71 u4 B by rw [hW1]; exact HO.out.alloc _)
        have BW1 := Lib.hid (show Below W.heap.size W W1 by rw [hW1]; exact hbel.alloc hs _)
        have HR1 := Lib.hid (show rowOf u4 ≠ some wr.heap.size from fun e => Nat.lt_irrefl _ (HO.out.row_lt e))
        rw [← hW1] at a0 a1 a2 a3 a4 ⊢
        clear hW1
        have HI := Lib.hid (show IsSl intRep (W1.alloc (.cells #[.int .i64 xo, .int .i64 xt, .int .i64 xk, .int .i64 (bitI xg)] 2)).drew (· < (W1.alloc (.cells #[.int .i64 xo, .int .i64 xt, .int .i64 xk, .int .i64 (bitI xg)] 2)).drew.heap.size) (some ⟨W1.heap.size, 0, none⟩) 4 [xo, xt, xk, bitI xg] from IsSl.newInts (w := W1.drew) (cs := #[.int .i64 xo, .int .i64 xt, .int .i64 xk, .int .i64 (bitI xg)]) [xo, xt, xk, bitI xg] HWF.out rfl rfl (by simp))
        have hba : Below W1.heap.size W1 (W1.alloc (.cells #[.int .i64 xo, .int .i64 xt, .int .i64 xk, .int .i64 (bitI xg)] 2)).drew := below_drewN ((Below.refl _ _).alloc (Nat.le_refl _) _) 1
        have b0 := (hba.cell (p := ⟨wr.heap.size, 0, none⟩) hW1s).trans a0
        have b1 := (hba.cell (p := ⟨wr.heap.size, 1, none⟩) hW1s).trans a1
        have b2 := (hba.cell (p := ⟨wr.heap.size, 2, none⟩) hW1s).trans a2
        have b3 := (hba.cell (p := ⟨wr.heap.size, 3, none⟩) hW1s).trans a3
        have HBA := Lib.hid hba
        clear hba
        go_region_held3 (fun w' => w'.cell? ⟨wr.heap.size, 0, none⟩ = some (.int .i64 xo) ∧ w'.cell? ⟨wr.heap.size, 1, none⟩ = some (.int .i64 xt) ∧ w'.cell? ⟨wr.heap.size, 2, none⟩ = some (.int .i64 xk) ∧ w'.cell? ⟨wr.heap.size, 3, none⟩ = some (.bool xg)) (first | exact ⟨a0, a1, a2, a3⟩ | exact ⟨b0, b1, b2, b3⟩ | exact ⟨p0, p1, p2, p3⟩ | exact ⟨q0, q1, q2, q3⟩)
          (first
            | (go_at_call 41; (with_reducible refine (pbitof_any xg _).mono ?_); rintro e w' ⟨rfl, rfl⟩)
            | (go_at_call 40; (with_reducible refine (ints_any _ 4 4 [xo, xt, xk, bitI xg] _ HI.out (by omega)).mono ?_); rintro e w5 ⟨v5, rfl, own5, bel5⟩; have BEL5 := Lib.hid (HBA.out.trans (bel5.mono HBA.out.size)); have p0 := (BEL5.out.cell (p := ⟨wr.heap.size, 0, none⟩) hW1s).trans a0; have p1 := (BEL5.out.cell (p := ⟨wr.heap.size, 1, none⟩) hW1s).trans a1; have p2 := (BEL5.out.cell (p := ⟨wr.heap.size, 2, none⟩) hW1s).trans a2; have p3 := (BEL5.out.cell (p := ⟨wr.heap.size, 3, none⟩) hW1s).trans a3; have p4 := (BEL5.out.cell (p := ⟨wr.heap.size, 4, none⟩) hW1s).trans a4; have OW5 := Lib.hid (OW1.out.below BEL5.out); obtain ⟨A5, c5, rfl, hlc5, hcm5, hsrc5⟩ := own5.srcOf; have HS5 := Lib.hid (show Src fldRep w5 (fun _ => False) A5 4 ([xo, xt, xk, bitI xg].map numF) from hsrc5 w5 (fun _ => False) flat_fld (Below.refl _ _)); have hs5 := Nat.le_trans BW1.out.size BEL5.out.size; clear own5 bel5 hsrc5)
            | (refine step_append_Own _ rfl (.tmp 26) (.tmp 37) 46 rfl W.heap.size 71 i0 _ 32 Try.underlying46 hi hz0 hz1 hz2 rfl (R := fldRep) (S := fun _ => False) (l := B) (l' := [xo, xt, xk, bitI xg].map numF) u4 rfl OW5.out A5 4 c5 rfl HS5.out (by simp only [maxLen]; omega) (by omega) (by omega) hs5 ?_; intro v6 w6 own6 gr6 at6; have gb6 := gr6.block wr.heap.size (Nat.lt_of_lt_of_le hW1s BEL5.out.size) (fun e => HR1.out e.symm); have q0 := (World.cell?_of_block (a := ⟨wr.heap.size, 0, none⟩) gb6).trans p0; have q1 := (World.cell?_of_block (a := ⟨wr.heap.size, 1, none⟩) gb6).trans p1; have q2 := (World.cell?_of_block (a := ⟨wr.heap.size, 2, none⟩) gb6).trans p2; have q3 := (World.cell?_of_block (a := ⟨wr.heap.size, 3, none⟩) gb6).trans p3; have q4 := (World.cell?_of_block (a := ⟨wr.heap.size, 4, none⟩) gb6).trans p4; have OW6 := Lib.hid own6; have BW6 := Lib.hid ((BW1.out.trans (BEL5.out.mono BW1.out.size)).grown gr6 hs5 (fun g hg => OW5.out.row_ge hg)); clear own6 gr6 at6 gb6)
            | fail)
        go_wp2_with (first
          | (go_at_call 42; (with_reducible refine (ptxt_any xv _).mono ?_); rintro e w7 ⟨rfl, bel7⟩; have OW7 := Lib.hid (OW6.out.below bel7); have BW7 := Lib.hid (BW6.out.trans (bel7.mono BW6.out.size)); have hs7 := BW7.out.size; clear bel7)
          | (at_builtin; refine wpList_append_Own _ rfl _ _ 46 rfl W.heap.size 71 i0 _ 32 Try.underlying46 hi hz0 hz1 hz2 rfl (R := fldRep) (S := fun _ => False) (l := B ++ [xo, xt, xk, bitI xg].map numF) (l' := [txtF xv]) v6 rfl (OW7.out.alloc _) _ 1 1 rfl ?_ (by rw [List.length_append, List.length_map]; simp only [maxLen, List.length_cons, List.length_nil]; omega) (by rw [List.length_append, List.length_map]; simp only [List.length_cons, List.length_nil]; omega) (by omega) (by simp; omega) ?_; exact Src.new (cs := (txtF xv).cells) ⟨rfl, HXV.out⟩; intro v8 w8 own8 gr8 at8; have OW8 := Lib.hid own8; have BW8 := Lib.hid ((BW7.out.alloc hs7 _).grown gr8 (by simp; omega) (fun g hg => OW7.out.row_ge hg)); clear own8 gr8 at8)
          | fail)
        go_roundw
        case rel => exact ⟨k + 1, by go_num, by omega, by rw [HSN.out, ← List.append_assoc, ← HB.out]; have h8 := OW8.out; rw [List.append_assoc] at h8; exact h8, BW8.out⟩
        case measure => simp [intOf]; omega
      · have HE := Lib.hid (show B = F0 ++ l1.flatMap oprF by rw [HB.out, List.take_of_length_le (by rw [← HL.out]; omega)])
        have e2 : wr.cell? ⟨w.heap.size, 2, none⟩ = some (.slice A2 n2 c2) := (hbel.cell (p := ⟨w.heap.size, 2, none⟩) hgW).trans d2
        have HWN := Lib.hid (show ∀ y ∈ [(n2 : Int)], I64 y by
          intro y hy
          simp only [List.mem_cons, List.not_mem_nil, or_false] at hy
          subst hy
          unfold I64
          omega)
        go_wp2_with (first
          | (go_at_call 40; (with_reducible refine (ints_any _ 1 1 [(n2 : Int)] _ (IsSl.newInts (cs := #[.int .i64 (n2 : Int)]) [(n2 : Int)] HWN.out rfl rfl (by simp)) (by omega)).mono ?_); rintro e w5 ⟨v5, rfl, own5, bel5⟩; have BEL5 := Lib.hid (((Below.refl _ _).alloc (Nat.le_refl _) _).trans (bel5.mono (by simp))); have OW5 := Lib.hid (HO.out.below BEL5.out); obtain ⟨A5, c5, rfl, hlc5, hcm5, hsrc5⟩ := own5.srcOf; have HS5 := Lib.hid (show Src fldRep w5 (fun _ => False) A5 1 [numF (n2 : Int)] from hsrc5 w5 (fun _ => False) flat_fld (Below.refl _ _)); have BW5 := Lib.hid (hbel.trans (BEL5.out.mono hs)); have hs5 := BW5.out.size; clear own5 bel5 hsrc5)
          | (at_builtin; refine wpList_append_Own _ rfl _ _ 46 rfl W.heap.size 71 i0 _ 32 Try.underlying46 hi hz0 hz1 hz2 rfl (R := fldRep) (S := fun _ => False) (l := B) (l' := [numF (n2 : Int)]) u4 rfl OW5.out A5 1 c5 rfl HS5.out (by simp only [maxLen]; omega) (by omega) (by omega) hs5 ?_; intro v6 w6 own6 gr6 at6; have OW6 := Lib.hid own6; have BW6 := Lib.hid (BW5.out.grown gr6 hs5 (fun g hg => OW5.out.row_ge hg)); have f2 : w6.cell? ⟨w.heap.size, 2, none⟩ = some (.slice A2 n2 c2) := (BW6.out.cell (p := ⟨w.heap.size, 2, none⟩) hgW).trans d2; clear own6 gr6 at6)
          | fail)
        obtain ⟨B2, hB2⟩ : ∃ B2, B2 = B ++ [numF (n2 : Int)] := ⟨_, rfl⟩
        rw [← hB2] at OW6
        have hB2l : B2.length ≤ 3 + 5 * n := by rw [hB2, List.length_append]; simp; omega
        have HB2 := Lib.hid hB2
        clear hB2 f2 e2
        go_loopw [4, 56] (fun v i wq => ∃ q : Nat, i = .int .i64 q ∧ q ≤ n2 ∧ Own fldRep wq W.heap.size (fun _ => False) 71 v (B2 ++ (l2.take q).flatMap noteF) ∧ Below W.heap.size W wq) (fun _ i _ => n2 - (intOf i).toNat)
        case atStart => exact ⟨0, rfl, Nat.zero_le _, by simpa using OW6.out, BW6.out⟩
        case round =>
          clear OW6 BW6
          obtain ⟨q, rfl, hq, hownq, hbelq⟩ := hrel
          have hsq := hbelq.size
          obtain ⟨B3, hB3⟩ : ∃ B3, B3 = B2 ++ (l2.take q).flatMap noteF := ⟨_, rfl⟩
          have hB3l : B3.length ≤ 3 + 5 * n + 7 * n2 := by rw [hB3, List.length_append, noteF_len, List.length_take]; omega
          rw [← hB3] at hownq
          have HOQ := Lib.hid hownq
          have HB3 := Lib.hid hB3
          skip
          clear hownq hB3
          by_cases hltq : q < n2
          · obtain ⟨b, off, y, rfl, hbS, hy, hwf, c0, c1, c4, c5, c6, c7, c8⟩ := H2.out.note hltq (fun p hp => (hbelq.cell (Nat.lt_trans hp hgW)).trans (belW.cell hp))
            obtain ⟨yk, yi, yt, yw, ya, yc, yd⟩ := y
            dsimp only at c0 c1 c4 c5 c6 c7 c8
            have HSN := Lib.hid (flatMap_snoc (f := noteF) hy)
            have HWN2 := Lib.hid (noteF_wf hwf)
            obtain ⟨hw1, hw2, hw3, hw4, hw5, hw6⟩ := hwf
            have HWF := Lib.hid (show ∀ z ∈ [yk, yi, yt, yw, ya, yc, bitI yd], I64 z by
              intro z hz
              simp only [List.mem_cons, List.not_mem_nil, or_false] at hz
              rcases hz with rfl | rfl | rfl | rfl | rfl | rfl | rfl
              · exact hw1
              · exact hw2
              · exact hw3
              · exact hw4
              · exact hw5
              · exact hw6
              · exact bitI_wf _)
            clear hy hw1 hw2 hw3 hw4 hw5 hw6
            go_wp2_with fail
            have a0 : (wr.alloc (.cells #[.int .i64 yk, .int .i64 yi, .int .i64 yt, .int .i64 yw, .int .i64 ya, .int .i64 yc, .bool yd] 27)).cell? ⟨wr.heap.size, 0, none⟩ = some (.int .i64 yk) := World.cell?_alloc_at _ _ _ _ rfl
            have a1 : (wr.alloc (.cells #[.int .i64 yk, .int .i64 yi, .int .i64 yt, .int .i64 yw, .int .i64 ya, .int .i64 yc, .bool yd] 27)).cell? ⟨wr.heap.size, 1, none⟩ = some (.int .i64 yi) := World.cell?_alloc_at _ _ _ _ rfl
            have a2 : (wr.alloc (.cells #[.int .i64 yk, .int .i64 yi, .int .i64 yt, .int .i64 yw, .int .i64 ya, .int .i64 yc, .bool yd] 27)).cell? ⟨wr.heap.size, 2, none⟩ = some (.int .i64 yt) := World.cell?_alloc_at _ _ _ _ rfl
            have a3 : (wr.alloc (.cells #[.int .i64 yk, .int .i64 yi, .int .i64 yt, .int .i64 yw, .int .i64 ya, .int .i64 yc, .bool yd] 27)).cell? ⟨wr.heap.size, 3, none⟩ = some (.int .i64 yw) := World.cell?_alloc_at _ _ _ _ rfl
            have a4 : (wr.alloc (.cells #[.int .i64 yk, .int .i64 yi, .int .i64 yt, .int .i64 yw, .int .i64 ya, .int .i64 yc, .bool yd] 27)).cell? ⟨wr.heap.size, 4, none⟩ = some (.int .i64 ya) := World.cell?_alloc_at _ _ _ _ rfl
            have a5 : (wr.alloc (.cells #[.int .i64 yk, .int .i64 yi, .int .i64 yt, .int .i64 yw, .int .i64 ya, .int .i64 yc, .bool yd] 27)).cell? ⟨wr.heap.size, 5, none⟩ = some (.int .i64 yc) := World.cell?_alloc_at _ _ _ _ rfl
            have a6 : (wr.alloc (.cells #[.int .i64 yk, .int .i64 yi, .int .i64 yt, .int .i64 yw, .int .i64 ya, .int .i64 yc, .bool yd] 27)).cell? ⟨wr.heap.size, 6, none⟩ = some (.bool yd) := World.cell?_alloc_at _ _ _ _ rfl
            obtain ⟨W1, hW1⟩ : ∃ W1, W1 = (wr.alloc (.cells #[.int .i64 yk, .int .i64 yi, .int .i64 yt, .int .i64 yw, .int .i64 ya, .int .i64 yc, .bool yd] 27)) := ⟨_, rfl⟩
            have hW1s : wr.heap.size < W1.heap.size := by rw [hW1]; simp
            have OW1 := Lib.hid (show Own fldRep W1 W.heap.size (fun _ => False) 71 u4 B3 by rw [hW1]; exact HOQ.out.alloc _)
            have BW1 := Lib.hid (show Below W.heap.size W W1 by rw [hW1]; exact hbelq.alloc hsq _)
            have HR1 := Lib.hid (show rowOf u4 ≠ some wr.heap.size from fun e => Nat.lt_irrefl _ (HOQ.out.row_lt e))
            rw [← hW1] at a0 a1 a2 a3 a4 a5 a6 ⊢
            clear hW1
            have HI := Lib.hid (show IsSl intRep (W1.alloc (.cells #[.int .i64 yk, .int .i64 yi, .int .i64 yt, .int .i64 yw, .int .i64 ya, .int .i64 yc, .int .i64 (bitI yd)] 2)).drew (· < (W1.alloc (.cells #[.int .i64 yk, .int .i64 yi, .int .i64 yt, .int .i64 yw, .int .i64 ya, .int .i64 yc, .int .i64 (bitI yd)] 2)).drew.heap.size) (some ⟨W1.heap.size, 0, none⟩) 7 [yk, yi, yt, yw, ya, yc, bitI yd] from IsSl.newInts (w := W1.drew) (cs := #[.int .i64 yk, .int .i64 yi, .int .i64 yt, .int .i64 yw, .int .i64 ya, .int .i64 yc, .int .i64 (bitI yd)]) [yk, yi, yt, yw, ya, yc, bitI yd] HWF.out rfl rfl (by simp))
            have hba : Below W1.heap.size W1 (W1.alloc (.cells #[.int .i64 yk, .int .i64 yi, .int .i64 yt, .int .i64 yw, .int .i64 ya, .int .i64 yc, .int .i64 (bitI yd)] 2)).drew := below_drewN ((Below.refl _ _).alloc (Nat.le_refl _) _) 1
            have b0 := (hba.cell (p := ⟨wr.heap.size, 0, none⟩) hW1s).trans a0
            have b1 := (hba.cell (p := ⟨wr.heap.size, 1, none⟩) hW1s).trans a1
            have b2 := (hba.cell (p := ⟨wr.heap.size, 2, none⟩) hW1s).trans a2
            have b3 := (hba.cell (p := ⟨wr.heap.size, 3, none⟩) hW1s).trans a3
            have b4 := (hba.cell (p := ⟨wr.heap.size, 4, none⟩) hW1s).trans a4
            have b5 := (hba.cell (p := ⟨wr.heap.size, 5, none⟩) hW1s).trans a5
            have b6 := (hba.cell (p := ⟨wr.heap.size, 6, none⟩) hW1s).trans a6
            have HBA := Lib.hid hba
            clear hba
            go_region_held3 (fun w' => w'.cell? ⟨wr.heap.size, 0, none⟩ = some (.int .i64 yk) ∧ w'.cell? ⟨wr.heap.size, 1, none⟩ = some (.int .i64 yi) ∧ w'.cell? ⟨wr.heap.size, 2, none⟩ = some (.int .i64 yt) ∧ w'.cell? ⟨wr.heap.size, 3, none⟩ = some (.int .i64 yw) ∧ w'.cell? ⟨wr.heap.size, 4, none⟩ = some (.int .i64 ya) ∧ w'.cell? ⟨wr.heap.size, 5, none⟩ = some (.int .i64 yc) ∧ w'.cell? ⟨wr.heap.size, 6, none⟩ = some (.bool yd)) (first | exact ⟨a0, a1, a2, a3, a4, a5, a6⟩ | exact ⟨b0, b1, b2, b3, b4, b5, b6⟩ | exact ⟨p0, p1, p2, p3, p4, p5, p6⟩ | exact ⟨q0, q1, q2, q3, q4, q5, q6⟩)
              (first
                | (go_at_call 41; (with_reducible refine (pbitof_any yd _).mono ?_); rintro e w' ⟨rfl, rfl⟩)
                | (go_at_call 40; (with_reducible refine (ints_any _ 7 7 [yk, yi, yt, yw, ya, yc, bitI yd] _ HI.out (by omega)).mono ?_); rintro e w5 ⟨v5, rfl, own5, bel5⟩; have BEL5 := Lib.hid (HBA.out.trans (bel5.mono HBA.out.size)); have p0 := (BEL5.out.cell (p := ⟨wr.heap.size, 0, none⟩) hW1s).trans a0; have p1 := (BEL5.out.cell (p := ⟨wr.heap.size, 1, none⟩) hW1s).trans a1; have p2 := (BEL5.out.cell (p := ⟨wr.heap.size, 2, none⟩) hW1s).trans a2; have p3 := (BEL5.out.cell (p := ⟨wr.heap.size, 3, none⟩) hW1s).trans a3; have p4 := (BEL5.out.cell (p := ⟨wr.heap.size, 4, none⟩) hW1s).trans a4; have p5 := (BEL5.out.cell (p := ⟨wr.heap.size, 5, none⟩) hW1s).trans a5; have p6 := (BEL5.out.cell (p := ⟨wr.heap.size, 6, none⟩) hW1s).trans a6; have OW5 := Lib.hid (OW1.out.below BEL5.out); obtain ⟨A5, c5, rfl, hlc5, hcm5, hsrc5⟩ := own5.srcOf; have HS5 := Lib.hid (show Src fldRep w5 (fun _ => False) A5 7 ([yk, yi, yt, yw, ya, yc, bitI yd].map numF) from hsrc5 w5 (fun _ => False) flat_fld (Below.refl _ _)); have hs5 := Nat.le_trans BW1.out.size BEL5.out.size; clear own5 bel5 hsrc5)
                | (refine step_append_Own _ rfl (.tmp 60) (.tmp 77) 46 rfl W.heap.size 71 i0 _ 32 Try.underlying46 hi hz0 hz1 hz2 rfl (R := fldRep) (S := fun _ => False) (l := B3) (l' := [yk, yi, yt, yw, ya, yc, bitI yd].map numF) u4 rfl OW5.out A5 7 c5 rfl HS5.out (by simp only [maxLen]; omega) (by omega) (by omega) hs5 ?_; intro v6 w6 own6 gr6 at6; have gb6 := gr6.block wr.heap.size (Nat.lt_of_lt_of_le hW1s BEL5.out.size) (fun e => HR1.out e.symm); have q0 := (World.cell?_of_block (a := ⟨wr.heap.size, 0, none⟩) gb6).trans p0; have q1 := (World.cell?_of_block (a := ⟨wr.heap.size, 1, none⟩) gb6).trans p1; have q2 := (World.cell?_of_block (a := ⟨wr.heap.size, 2, none⟩) gb6).trans p2; have q3 := (World.cell?_of_block (a := ⟨wr.heap.size, 3, none⟩) gb6).trans p3; have q4 := (World.cell?_of_block (a := ⟨wr.heap.size, 4, none⟩) gb6).trans p4; have q5 := (World.cell?_of_block (a := ⟨wr.heap.size, 5, none⟩) gb6).trans p5; have q6 := (World.cell?_of_block (a := ⟨wr.heap.size, 6, none⟩) gb6).trans p6; have OW6 := Lib.hid own6; have BW6 := Lib.hid ((BW1.out.trans (BEL5.out.mono BW1.out.size)).grown gr6 hs5 (fun g hg => OW5.out.row_ge hg)); clear own6 gr6 at6 gb6)
                | fail)
            go_wp2_with fail
            go_roundw
            case rel => exact ⟨q + 1, by go_num, by omega, by rw [HSN.out, ← List.append_assoc, ← HB3.out]; exact OW6.out, BW6.out⟩
            case measure => simp [intOf]; omega
          · have HE2 := Lib.hid (show B3 = fieldsI ⟨xl, l1, l2⟩ by
              rw [HB3.out, List.take_of_length_le (by rw [← HL2.out]; omega), HB2.out, HE.out, HF0.out, HL.out, HL2.out]; rfl)
            obtain ⟨A9, c9, hu9, hlc9, hcm9, sl9⟩ := HOQ.out.isSlB
            subst hu9
            have SL9 := Lib.hid sl9
            have HB3L := Lib.hid (show B3.length ≤ 281474976710656 by omega)
            obtain ⟨m9, hm9⟩ : ∃ m9, m9 = B3.length := ⟨_, rfl⟩
            rw [← hm9] at SL9 hlc9 HB3L ⊢
            clear sl9 hm9
            go_wp2_with (first
              | (go_at_call 43; (with_reducible refine (encode_any A9 m9 c9 B3 _ SL9.out HB3L.out).mono ?_); rintro e w10 ⟨v10, rfl, own10, bel10⟩)
              | fail)
            go_ret2
            refine ⟨_, by unfold encIE encGE; rw [if_pos HM.out, HE2.out]; rfl, by unfold encIV encGV; rw [if_pos HM.out, ← HE2.out]; exact own10.mono (Nat.le_trans belW.size hsq), belW.trans ((hbelq.trans (bel10.mono hsq)).mono belW.size)⟩
end Go.Proofs.Ytcohheoahdbgmaa
