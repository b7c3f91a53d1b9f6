/- Contract: the reference's Encode of a transaction. -/
import Derived.Test.YtojjeogpggielaaTxn6
set_option linter.unusedVariables false
namespace Go.Proofs.Ytojjeogpggielaa
open Go.RowKit

/-- A literal of fields is owned. -/
theorem Own.litF {w : World} {base : Nat} {t : TypeId} (l : List Fld) (hw : ∀ x ∈ l, x.wf) {cs : Array Value} (hcs : cs = ((l.map Fld.cells).flatten).toArray) {n : Nat} (hn : n = l.length) (hb : base ≤ w.heap.size) (hm : l.length ≤ maxLen) :
    Own fldRep (w.alloc (.cells cs t)) base (fun _ => False) t (.slice (some ⟨w.heap.size, 0, none⟩) n n) l := by
  subst hn
  have hr : Rows fldRep (w.alloc (.cells cs t)) (fun _ => False) l (l.map Fld.cells) := ⟨by simp, fun k a c ha hc => by
    rw [List.getElem?_map, ha] at hc
    exact ⟨(Option.some.inj hc).symm, hw a (List.mem_of_getElem? ha)⟩⟩
  have hfl := hr.flat_len
  refine ⟨fun _ h => h.elim, .inr ⟨w.heap.size, l.length, cs, _, rfl, hb, fun h => h, heap_alloc_new w _, Nat.le_refl _, hm, ?_, hr, ?_⟩⟩
  · rw [hcs, List.size_toArray, hfl]
  · rw [hcs, ← hfl, List.take_of_length_le (Nat.le_refl _)]

theorem wf_map {l : List Int} (h : ∀ x ∈ l, I64 x) : ∀ x ∈ l.map numF, x.wf := by
  intro x hx
  obtain ⟨y, hy, rfl⟩ := List.mem_map.1 hx
  exact numF_wf (h y hy)

set_option maxRecDepth 100000 in
set_option maxHeartbeats 8000000 in
theorem reftxnEncode_any (t : Txn) (A : Option Addr) (n c : Nat) (A2 : Option Addr) (n2 c2 : Nat) (w : World) (h : IsSl chgRep w (· < w.heap.size) A n t.changes) (h2 : IsSl strRep w (· < w.heap.size) A2 n2 t.signals) (hwl : I64 t.lsn ∧ I64 t.kind ∧ I64 t.mark) :
    Calls Try.prog 46 #[.agg #[.int .i64 t.lsn, .int .i64 t.kind, .slice A n c, .slice A2 n2 c2, .int .i64 t.mark]] w fun e w' => ∃ v, e = .returned (.tuple #[v, .int .i64 (encTE t)]) ∧ Own byteRep w' w.heap.size (fun _ => False) 5 v (encTV t) ∧ Below w.heap.size w w' := by
  have H := Lib.hid h
  have H2 := Lib.hid h2
  have HL := Lib.hid h.len
  have HL2 := Lib.hid h2.len
  clear h h2
  obtain ⟨i0, hi, hz0, hz1, hz2⟩ := info_parts info_fld
  have bw0 : ∀ o, Below w.heap.size w (w.alloc o) := fun o => (Below.refl _ _).alloc (Nat.le_refl _) o
  cases hmay : mayTxn t
  · have HM := Lib.hid hmay
    clear hmay
    go_enter Try.func46, Try.ntmps46
    go_wp2_with (first
      | (go_at_call 48; (with_reducible refine (refmay_any t A n c A2 n2 c2 _ ((H.out.below (bw0 _)).more (by simp)) ((H2.out.below (bw0 _)).more (by simp))).mono ?_); rintro e w2 ⟨rfl, bel2⟩; rw [HM.out])
      | fail)
    go_ret2
    exact ⟨_, by unfold encTE; rw [HM.out]; rfl, by unfold encTV; rw [HM.out]; exact Own.nil _ _ _ (fun _ h => h.elim) _ _, (bw0 _).trans (bel2.mono (by simp))⟩
  · obtain ⟨hn16, hn2⟩ := mayTxn_len hmay
    rw [← HL.out] at hn16
    rw [← HL2.out] at hn2
    have HM := Lib.hid hmay
    clear hmay
    obtain ⟨tl, tk, l1, l2, tm⟩ := t
    dsimp only at *
    obtain ⟨hw1, hw2, hw3⟩ := hwl
    have HW := Lib.hid (And.intro hw1 (And.intro hw2 hw3))
    have HW4 := Lib.hid (show ∀ x ∈ [tl, tk, tm, (n : Int)], I64 x by
      intro x hx
      simp only [List.mem_cons, List.not_mem_nil, or_false] at hx
      rcases hx with rfl | rfl | rfl | rfl
      · exact hw1
      · exact hw2
      · exact hw3
      · unfold I64; omega)
    clear hw1 hw2 hw3
    go_enter Try.func46, Try.ntmps46
    go_wp2_with (first
      | (go_at_call 48; (with_reducible refine (refmay_any ⟨tl, tk, l1, l2, tm⟩ A n c A2 n2 c2 _ ((H.out.below (bw0 _)).more (by simp)) ((H2.out.below (bw0 _)).more (by simp))).mono ?_); rintro e w2 ⟨rfl, bel2⟩; rw [HM.out]; have g0 : w2.cell? ⟨w.heap.size, 0, none⟩ = some (.int .i64 tl) := (bel2.cell (p := ⟨w.heap.size, 0, none⟩) (by simp)).trans (World.cell?_alloc_at _ _ _ _ rfl); have g1 : w2.cell? ⟨w.heap.size, 1, none⟩ = some (.int .i64 tk) := (bel2.cell (p := ⟨w.heap.size, 1, none⟩) (by simp)).trans (World.cell?_alloc_at _ _ _ _ rfl); have g2 : w2.cell? ⟨w.heap.size, 2, none⟩ = some (.slice A n c) := (bel2.cell (p := ⟨w.heap.size, 2, none⟩) (by simp)).trans (World.cell?_alloc_at _ _ _ _ rfl); have g3 : w2.cell? ⟨w.heap.size, 3, none⟩ = some (.slice A2 n2 c2) := (bel2.cell (p := ⟨w.heap.size, 3, none⟩) (by simp)).trans (World.cell?_alloc_at _ _ _ _ rfl); have g4 : w2.cell? ⟨w.heap.size, 4, none⟩ = some (.int .i64 tm) := (bel2.cell (p := ⟨w.heap.size, 4, none⟩) (by simp)).trans (World.cell?_alloc_at _ _ _ _ rfl); have hs2 := bel2.size; simp at hs2; have BEL2 := Lib.hid bel2; clear bel2)
      | fail)
    obtain ⟨W, hW⟩ : ∃ W, W = w.alloc (.cells #[.int .i64 tl, .int .i64 tk, .slice A n c, .slice A2 n2 c2, .int .i64 tm] 68) := ⟨_, rfl⟩
    have hgW : w.heap.size < W.heap.size := by rw [hW]; simp
    have belW : Below w.heap.size w W := by rw [hW]; exact bw0 _
    have d2 : W.cell? ⟨w.heap.size, 2, none⟩ = some (.slice A n c) := by rw [hW]; exact World.cell?_alloc_at _ _ _ _ rfl
    have d3 : W.cell? ⟨w.heap.size, 3, none⟩ = some (.slice A2 n2 c2) := by rw [hW]; exact World.cell?_alloc_at _ _ _ _ rfl
    have hgV : w.heap.size < w2.heap.size := by omega
    rw [← hW] at BEL2
    have BW := Lib.hid (show Below W.heap.size W w2 from BEL2.out)
    clear hW BEL2 hs2
    go_region_held3 (fun w' => w'.cell? ⟨w.heap.size, 0, none⟩ = some (.int .i64 tl) ∧ w'.cell? ⟨w.heap.size, 1, none⟩ = some (.int .i64 tk) ∧ w'.cell? ⟨w.heap.size, 2, none⟩ = some (.slice A n c) ∧ w'.cell? ⟨w.heap.size, 4, none⟩ = some (.int .i64 tm)) (first | exact ⟨g0, g1, g2, g4⟩ | go_keep)
      (first
        | (go_at_call 87; (with_reducible refine (num_any _ _).mono ?_); rintro e w3 ⟨rfl, bel3⟩; have g0 := (bel3.cell (p := ⟨w.heap.size, 0, none⟩) hgV).trans g0; have g1 := (bel3.cell (p := ⟨w.heap.size, 1, none⟩) hgV).trans g1; have g2 := (bel3.cell (p := ⟨w.heap.size, 2, none⟩) hgV).trans g2; have g4 := (bel3.cell (p := ⟨w.heap.size, 4, none⟩) hgV).trans g4; have BW := Lib.hid (BW.out.trans ((below_of_drew bel3).mono BW.out.size)); have hgV := Nat.lt_of_lt_of_le hgV bel3.size; clear bel3)
        | (go_at_call 87; (with_reducible refine (num_any _ _).mono ?_); rintro e w3 ⟨rfl, bel3⟩; have g0 := (bel3.cell (p := ⟨w.heap.size, 0, none⟩) hgV).trans g0; have g1 := (bel3.cell (p := ⟨w.heap.size, 1, none⟩) hgV).trans g1; have g2 := (bel3.cell (p := ⟨w.heap.size, 2, none⟩) hgV).trans g2; have g4 := (bel3.cell (p := ⟨w.heap.size, 4, none⟩) hgV).trans g4; have BW := Lib.hid (BW.out.trans (bel3.mono BW.out.size)); have hgV := Nat.lt_of_lt_of_le hgV bel3.size; clear bel3)
        | fail)
    clear g0 g1 g4
    go_wp2_with fail
    obtain ⟨F0, hF0⟩ : ∃ F0, F0 = [numF tl, numF tk, numF tm, numF (n : Int)] := ⟨_, rfl⟩
    obtain ⟨V, hV⟩ : ∃ V, V = w3.alloc (.cells #[.int .i64 1, .int .i64 tl, .string ByteArray.empty, .int .i64 1, .int .i64 tk, .string ByteArray.empty, .int .i64 1, .int .i64 tm, .string ByteArray.empty, .int .i64 1, .int .i64 (n : Int), .string ByteArray.empty] 135) := ⟨_, rfl⟩
    have OW3 := Lib.hid (show Own fldRep V W.heap.size (fun _ => False) 135 (.slice (some ⟨w3.heap.size, 0, none⟩) 4 4) F0 by rw [hV, hF0]; exact Own.litF ([tl, tk, tm, (n : Int)].map numF) (wf_map HW4.out) rfl rfl BW.out.size (by simp [maxLen]))
    have BV := Lib.hid (show Below W.heap.size W V by rw [hV]; exact BW.out.alloc BW.out.size _)
    have hF0l : F0.length = 4 := by rw [hF0]; rfl
    have HF0 := Lib.hid hF0
    rw [← hV]
    clear hF0 hV g2 g3
    go_loopw [4, 5] (fun v i wr => ∃ k : Nat, i = .int .i64 k ∧ k ≤ n ∧ Own fldRep wr W.heap.size (fun _ => False) 135 v (F0 ++ (l1.take k).flatMap chgF) ∧ Below W.heap.size W wr) (fun _ i _ => n - (intOf i).toNat)
    case atStart => exact ⟨0, rfl, Nat.zero_le _, by simpa using OW3.out, BV.out⟩
    case round =>
      obtain ⟨k, rfl, hk, hown, hbel⟩ := hrel
      have hs := hbel.size
      obtain ⟨B, hB⟩ : ∃ B, B = F0 ++ (l1.take k).flatMap chgF := ⟨_, rfl⟩
      have hBl : B.length ≤ 4 + 4 * n := by rw [hB, List.length_append, chgF_len, hF0l, List.length_take]; omega
      rw [← hB] at hown
      have HO := Lib.hid hown
      have HB := Lib.hid hB
      have e2 : wr.cell? ⟨w.heap.size, 2, none⟩ = some (.slice A n c) := (hbel.cell (p := ⟨w.heap.size, 2, none⟩) hgW).trans d2
      clear hown hB
      by_cases hlt : k < n
      · obtain ⟨b, off, x, rfl, hbS, hx, hwf, c0, c1, c4, c5⟩ := H.out.chg hlt (fun p hp => (hbel.cell (Nat.lt_trans hp hgW)).trans (belW.cell hp))
        obtain ⟨xt, xk, xg, xv⟩ := x
        dsimp only at c0 c1 c4 c5
        have HSN := Lib.hid (flatMap_snoc (f := chgF) hx)
        have HWX := Lib.hid hwf
        clear hx hwf
        go_wp2_with (first
          | (go_at_call 88; (with_reducible refine (changeFields_any ⟨xt, xk, xg, xv⟩ HWX.out _).mono ?_); rintro e w5 ⟨A5, c5', rfl, sl5, bel5⟩; have OW5 := Lib.hid (HO.out.below bel5); have HS5 := Lib.hid (show Src fldRep w5 (fun _ => False) A5 4 (chgF ⟨xt, xk, xg, xv⟩) from sl5.srcF flat_fld (Below.refl _ _)); have BW5 := Lib.hid (hbel.trans (bel5.mono hs)); have hs5 := BW5.out.size; clear sl5 bel5)
          | (at_builtin; refine wpList_append_Own _ rfl _ _ 96 rfl W.heap.size 135 i0 _ 32 Try.underlying96 hi hz0 hz1 hz2 rfl (R := fldRep) (S := fun _ => False) (l := B) (l' := chgF ⟨xt, xk, xg, xv⟩) u4 rfl OW5.out A5 4 c5' rfl HS5.out (by simp only [maxLen]; omega) (by omega) (by omega) hs5 ?_; intro v6 w6 own6 gr6 at6; have OW6 := Lib.hid own6; have BW6 := Lib.hid (BW5.out.grown gr6 hs5 (fun g hg => OW5.out.row_ge hg)); clear own6 gr6 at6)
          | fail)
        go_roundw
        case rel => exact ⟨k + 1, by go_num, by omega, by rw [HSN.out, ← List.append_assoc, ← HB.out]; exact OW6.out, BW6.out⟩
        case measure => simp [intOf]; omega
      · have HE := Lib.hid (show B = F0 ++ l1.flatMap chgF by rw [HB.out, List.take_of_length_le (by rw [← HL.out]; omega)])
        have e3 : wr.cell? ⟨w.heap.size, 3, none⟩ = some (.slice A2 n2 c2) := (hbel.cell (p := ⟨w.heap.size, 3, none⟩) hgW).trans d3
        have HNW := Lib.hid (show (numF (n2 : Int)).wf from numF_wf (by unfold I64; omega))
        go_wp2_with (first
          | (go_at_call 87; (with_reducible refine (num_any _ _).mono ?_); rintro e w5 ⟨rfl, bel5⟩; have OW5 := Lib.hid (HO.out.below bel5); have BW5 := Lib.hid (hbel.trans (bel5.mono hs)); have hs5 := BW5.out.size; clear bel5)
          | (at_builtin; refine wpList_append_Own _ rfl _ _ 96 rfl W.heap.size 135 i0 _ 32 Try.underlying96 hi hz0 hz1 hz2 rfl (R := fldRep) (S := fun _ => False) (l := B) (l' := [numF (n2 : Int)]) u4 rfl (OW5.out.alloc _) _ 1 1 rfl ?_ (by simp only [maxLen]; omega) (by omega) (by omega) (by simp; omega) ?_; exact Src.new (cs := (numF (n2 : Int)).cells) ⟨rfl, HNW.out⟩; intro v6 w6 own6 gr6 at6; have OW6 := Lib.hid own6; have BW6 := Lib.hid ((BW5.out.alloc hs5 _).grown gr6 (by simp; omega) (fun g hg => OW5.out.row_ge hg)); clear own6 gr6 at6)
          | fail)
        obtain ⟨B2, hB2⟩ : ∃ B2, B2 = B ++ [numF (n2 : Int)] := ⟨_, rfl⟩
        rw [← hB2] at OW6
        have hB2l : B2.length ≤ 5 + 4 * n := by rw [hB2, List.length_append]; simp; omega
        have HB2 := Lib.hid hB2
        clear hB2 e3 e2
        go_loopw [4, 6] (fun v i wq => ∃ q : Nat, i = .int .i64 q ∧ q ≤ n2 ∧ Own fldRep wq W.heap.size (fun _ => False) 135 v (B2 ++ (l2.take q).map txtF) ∧ Below W.heap.size W wq) (fun _ i _ => n2 - (intOf i).toNat)
        case atStart => exact ⟨0, rfl, Nat.zero_le _, by simpa using OW6.out, BW6.out⟩
        case round =>
          obtain ⟨q, rfl, hq, hownq, hbelq⟩ := hrel
          have hsq := hbelq.size
          obtain ⟨B3, hB3⟩ : ∃ B3, B3 = B2 ++ (l2.take q).map txtF := ⟨_, rfl⟩
          have hB3l : B3.length ≤ 5 + 4 * n + n2 := by rw [hB3, List.length_append, List.length_map, List.length_take]; omega
          rw [← hB3] at hownq
          have HOQ := Lib.hid hownq
          have HB3 := Lib.hid hB3
          have f3 : wr.cell? ⟨w.heap.size, 3, none⟩ = some (.slice A2 n2 c2) := (hbelq.cell (p := ⟨w.heap.size, 3, none⟩) hgW).trans d3
          clear hownq hB3
          by_cases hltq : q < n2
          · obtain ⟨b, off, x, rfl, hbS, hx, hxs, c0⟩ := H2.out.str hltq (fun p hp => (hbelq.cell (Nat.lt_trans hp hgW)).trans (belW.cell hp))
            have HSN := Lib.hid (show (l2.take (q + 1)).map txtF = (l2.take q).map txtF ++ [txtF x] by rw [take_snoc hx, List.map_append]; rfl)
            have HXV := Lib.hid (txtF_wf hxs)
            clear hx hxs
            go_wp2_with (first
              | (go_at_call 89; (with_reducible refine (text_any x _).mono ?_); rintro e w7 ⟨rfl, bel7⟩; have OW7 := Lib.hid (HOQ.out.below bel7); have BW7 := Lib.hid (hbelq.trans (bel7.mono hsq)); have hs7 := BW7.out.size; clear bel7)
              | (at_builtin; refine wpList_append_Own _ rfl _ _ 96 rfl W.heap.size 135 i0 _ 32 Try.underlying96 hi hz0 hz1 hz2 rfl (R := fldRep) (S := fun _ => False) (l := B3) (l' := [txtF x]) u4 rfl (OW7.out.alloc _) _ 1 1 rfl ?_ (by simp only [maxLen]; omega) (by omega) (by omega) (by simp; omega) ?_; exact Src.new (cs := (txtF x).cells) ⟨rfl, HXV.out⟩; intro v8 w8 own8 gr8 at8; have OW8 := Lib.hid own8; have BW8 := Lib.hid ((BW7.out.alloc hs7 _).grown gr8 (by simp; omega) (fun g hg => OW7.out.row_ge hg)); clear own8 gr8 at8)
              | fail)
            go_roundw
            case rel => exact ⟨q + 1, by go_num, by omega, by rw [HSN.out, ← List.append_assoc, ← HB3.out]; exact OW8.out, BW8.out⟩
            case measure => simp [intOf]; omega
          · have HE2 := Lib.hid (show B3 = fieldsT ⟨tl, tk, l1, l2, tm⟩ by
              rw [HB3.out, List.take_of_length_le (by rw [← HL2.out]; omega), HB2.out, HE.out, HF0.out, HL.out, HL2.out]; rfl)
            obtain ⟨A9, c9, hu9, hlc9, hcm9, sl9⟩ := HOQ.out.isSlB
            subst hu9
            have SL9 := Lib.hid sl9
            have HB3L := Lib.hid (show B3.length ≤ 281474976710656 by omega)
            obtain ⟨m9, hm9⟩ : ∃ m9, m9 = B3.length := ⟨_, rfl⟩
            rw [← hm9] at SL9 hlc9 HB3L ⊢
            clear sl9 hm9
            go_wp2_with (first
              | (go_at_call 55; (with_reducible refine (refencode_any A9 m9 c9 B3 _ SL9.out HB3L.out).mono ?_); rintro e w10 ⟨v10, rfl, own10, bel10⟩)
              | fail)
            go_ret2
            refine ⟨_, by unfold encTE; rw [if_pos HM.out, HE2.out]; rfl, by unfold encTV; rw [if_pos HM.out, ← HE2.out]; exact own10.mono (Nat.le_trans belW.size hsq), belW.trans ((hbelq.trans (bel10.mono hsq)).mono belW.size)⟩
end Go.Proofs.Ytojjeogpggielaa
