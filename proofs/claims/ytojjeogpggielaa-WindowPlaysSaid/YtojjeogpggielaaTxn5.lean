/- What a transaction's fields are; contract: txn.Encode. -/
import Derived.Test.YtojjeogpggielaaTxn4
import Derived.Test.YtojjeogpggielaaHelpT
import Derived.Deep.RegionHeld3
set_option linter.unusedVariables false
namespace Go.Proofs.Ytojjeogpggielaa
open Go.RowKit

/-- A change's fields. -/
def chgF (c : Chg) : List Fld := [numF c.table, numF c.key, numF (bitI c.gone), txtF c.val]
/-- A transaction's fields. -/
def fieldsT (t : Txn) : List Fld := [numF t.lsn, numF t.kind, numF t.mark, numF t.changes.length] ++ t.changes.flatMap chgF ++ [numF t.signals.length] ++ t.signals.map txtF
def encTE (t : Txn) : Int := if mayTxn t = true then encE (fieldsT t) else 1
def encTV (t : Txn) : List UInt8 := if mayTxn t = true then encV (fieldsT t) else []

theorem mayTxn_len {t : Txn} (h : mayTxn t = true) : t.changes.length ≤ 16 ∧ t.signals.length ≤ 2 := by
  unfold mayTxn at h
  rw [Bool.and_eq_true] at h
  obtain ⟨_, h⟩ := h
  split at h
  · unfold mayCli at h
    rw [Bool.and_eq_true] at h
    obtain ⟨_, h1, h2⟩ := of_decide_eq_true h.1
    exact ⟨h1, h2⟩
  · obtain ⟨_, _, _, h1, h2⟩ := of_decide_eq_true h
    omega

theorem bitI_wf (b : Bool) : I64 (bitI b) := by cases b <;> (unfold bitI I64; simp)

theorem flat_ints (l : List Int) : (l.map (fun x => [Value.int .i64 x])).flatten = l.map (Value.int .i64) := by
  induction l with
  | nil => rfl
  | cons a t ih => simp [ih]

theorem IsSl.newInts {w : World} {S : Nat → Prop} {t : TypeId} (l : List Int) (hw : ∀ x ∈ l, I64 x) {cs : Array Value} (hcs : cs = (l.map (Value.int .i64)).toArray) {n : Nat} (hn : n = l.length) (hS : S w.heap.size) : IsSl intRep (w.alloc (.cells cs t)) S (some ⟨w.heap.size, 0, none⟩) n l := by
  subst hcs
  refine ⟨hn, l.map (fun x => [Value.int .i64 x]), ⟨by simp, fun k a cs ha hc => ?_⟩, fun _ => ⟨_, 0, rfl, hS, fun j u hu => ?_⟩⟩
  · rw [List.getElem?_map, ha] at hc
    exact ⟨(Option.some.inj hc).symm, hw a (List.mem_of_getElem? ha)⟩
  · rw [flat_ints] at hu
    rw [Nat.zero_add, World.cell?_alloc_at _ _ _ _ rfl]
    simpa using hu

theorem flatMap_snoc {α β : Type} {f : α → List β} {l : List α} {k : Nat} {x : α} (h : l[k]? = some x) : (l.take (k + 1)).flatMap f = (l.take k).flatMap f ++ f x := by
  rw [take_snoc h, List.flatMap_append]
  simp

theorem chgF_len (l : List Chg) : (l.flatMap chgF).length = 4 * l.length := by
  induction l with
  | nil => rfl
  | cons a t ih => rw [List.flatMap_cons, List.length_append, ih, List.length_cons]; show 4 + _ = _; omega

set_option maxRecDepth 100000 in
set_option maxHeartbeats 8000000 in
theorem txnEncode_any (t : Txn) (A : Option Addr) (n c : Nat) (A2 : Option Addr) (n2 c2 : Nat) (w : World) (h : IsSl chgRep w (· < w.heap.size) A n t.changes) (h2 : IsSl strRep w (· < w.heap.size) A2 n2 t.signals) (hwl : I64 t.lsn ∧ I64 t.kind ∧ I64 t.mark) :
    Calls Try.prog 45 #[.agg #[.int .i64 t.lsn, .int .i64 t.kind, .slice A n c, .slice A2 n2 c2, .int .i64 t.mark]] w fun e w' => ∃ v, e = .returned (.tuple #[v, .int .i64 (encTE t)]) ∧ Own byteRep w' w.heap.size (fun _ => False) 5 v (encTV t) ∧ Below w.heap.size w w' := by
  have H := Lib.hid h
  have H2 := Lib.hid h2
  have HL := Lib.hid h.len
  have HL2 := Lib.hid h2.len
  clear h h2
  obtain ⟨i0, hi, hz0, hz1, hz2⟩ := info_parts info_fld
  have bw0 : ∀ o, Below w.heap.size w (w.alloc o) := fun o => (Below.refl _ _).alloc (Nat.le_refl _) o
  cases hmay : mayTxn t
  · have HM := Lib.hid hmay
    clear hmay
    go_enter Try.func45, Try.ntmps45
    go_wp2_with (first
      | (go_at_call 47; (with_reducible refine (may_any t A n c A2 n2 c2 _ ((H.out.below (bw0 _)).more (by simp)) ((H2.out.below (bw0 _)).more (by simp))).mono ?_); rintro e w2 ⟨rfl, bel2⟩; rw [HM.out])
      | fail)
    go_ret2
    exact ⟨_, by unfold encTE; rw [HM.out]; rfl, by unfold encTV; rw [HM.out]; exact Own.nil _ _ _ (fun _ h => h.elim) _ _, (bw0 _).trans (bel2.mono (by simp))⟩
  · obtain ⟨hn16, hn2⟩ := mayTxn_len hmay
    rw [← HL.out] at hn16
    rw [← HL2.out] at hn2
    have HM := Lib.hid hmay
    clear hmay
    obtain ⟨tl, tk, l1, l2, tm⟩ := t
    dsimp only at *
    obtain ⟨hw1, hw2, hw3⟩ := hwl
    have HW := Lib.hid (And.intro hw1 (And.intro hw2 hw3))
    have HW4 := Lib.hid (show ∀ x ∈ [tl, tk, tm, (n : Int)], I64 x by
      intro x hx
      simp only [List.mem_cons, List.not_mem_nil, or_false] at hx
      rcases hx with rfl | rfl | rfl | rfl
      · exact hw1
      · exact hw2
      · exact hw3
      · unfold I64; omega)
    clear hw1 hw2 hw3
    go_enter Try.func45, Try.ntmps45
    go_wp2_with (first
      | (go_at_call 47; (with_reducible refine (may_any ⟨tl, tk, l1, l2, tm⟩ A n c A2 n2 c2 _ ((H.out.below (bw0 _)).more (by simp)) ((H2.out.below (bw0 _)).more (by simp))).mono ?_); rintro e w2 ⟨rfl, bel2⟩; rw [HM.out]; have g0 : w2.cell? ⟨w.heap.size, 0, none⟩ = some (.int .i64 tl) := (bel2.cell (p := ⟨w.heap.size, 0, none⟩) (by simp)).trans (World.cell?_alloc_at _ _ _ _ rfl); have g1 : w2.cell? ⟨w.heap.size, 1, none⟩ = some (.int .i64 tk) := (bel2.cell (p := ⟨w.heap.size, 1, none⟩) (by simp)).trans (World.cell?_alloc_at _ _ _ _ rfl); have g2 : w2.cell? ⟨w.heap.size, 2, none⟩ = some (.slice A n c) := (bel2.cell (p := ⟨w.heap.size, 2, none⟩) (by simp)).trans (World.cell?_alloc_at _ _ _ _ rfl); have g3 : w2.cell? ⟨w.heap.size, 3, none⟩ = some (.slice A2 n2 c2) := (bel2.cell (p := ⟨w.heap.size, 3, none⟩) (by simp)).trans (World.cell?_alloc_at _ _ _ _ rfl); have g4 : w2.cell? ⟨w.heap.size, 4, none⟩ = some (.int .i64 tm) := (bel2.cell (p := ⟨w.heap.size, 4, none⟩) (by simp)).trans (World.cell?_alloc_at _ _ _ _ rfl); have hs2 := bel2.size; simp at hs2; have BEL2 := Lib.hid bel2; clear bel2)
      | (go_at_call 83; (with_reducible refine (ints_any _ 4 4 [tl, tk, tm, (n : Int)] _ (IsSl.newInts (cs := #[.int .i64 tl, .int .i64 tk, .int .i64 tm, .int .i64 (n : Int)]) [tl, tk, tm, (n : Int)] HW4.out rfl rfl (by simp)) (by omega)).mono ?_); rintro e w3 ⟨v3, rfl, own3, bel3⟩; have hs3 : w.heap.size + 1 ≤ w3.heap.size := Nat.le_trans hs2 (Nat.le_trans (by simp) bel3.size); have BEL3 := Lib.hid (BEL2.out.trans ((((Below.refl _ _).alloc (Nat.le_refl _) _).trans (bel3.mono (by simp))).mono BEL2.out.size)); have k2 : w3.cell? ⟨w.heap.size, 2, none⟩ = some (.slice A n c) := (BEL3.out.cell (p := ⟨w.heap.size, 2, none⟩) (by simp)).trans (World.cell?_alloc_at _ _ _ _ rfl); have k3 : w3.cell? ⟨w.heap.size, 3, none⟩ = some (.slice A2 n2 c2) := (BEL3.out.cell (p := ⟨w.heap.size, 3, none⟩) (by simp)).trans (World.cell?_alloc_at _ _ _ _ rfl); have OW3 := Lib.hid (own3.mono (show (w.heap.size + 1) ≤ _ from Nat.le_trans hs2 (by simp))); clear own3 bel3 g0 g1 g2 g3 g4)
      | fail)
    obtain ⟨W, hW⟩ : ∃ W, W = w.alloc (.cells #[.int .i64 tl, .int .i64 tk, .slice A n c, .slice A2 n2 c2, .int .i64 tm] 68) := ⟨_, rfl⟩
    have hWs : W.heap.size = w.heap.size + 1 := by rw [hW]; simp
    have belW : Below w.heap.size w W := by rw [hW]; exact bw0 _
    have d3 : W.cell? ⟨w.heap.size, 3, none⟩ = some (.slice A2 n2 c2) := by rw [hW]; exact World.cell?_alloc_at _ _ _ _ rfl
    rw [← hW] at BEL3
    rw [← hWs] at OW3 hs3
    have hgW : w.heap.size < W.heap.size := by omega
    clear BEL2 hs2 hW hWs
    obtain ⟨F0, hF0⟩ : ∃ F0, F0 = [numF tl, numF tk, numF tm, numF (n : Int)] := ⟨_, rfl⟩
    rw [show [tl, tk, tm, (n : Int)].map numF = F0 from hF0.symm] at OW3
    have hF0l : F0.length = 4 := by rw [hF0]; rfl
    have HF0 := Lib.hid hF0
    clear hF0
    clear k2 k3
    go_loopw [4, 26] (fun v i wr => ∃ k : Nat, i = .int .i64 k ∧ k ≤ n ∧ Own fldRep wr W.heap.size (fun _ => False) 135 v (F0 ++ (l1.take k).flatMap chgF) ∧ Below W.heap.size W wr) (fun _ i _ => n - (intOf i).toNat)
    case atStart => exact ⟨0, rfl, Nat.zero_le _, by simpa using OW3.out, BEL3.out⟩
    case round =>
      obtain ⟨k, rfl, hk, hown, hbel⟩ := hrel
      have hs := hbel.size
      obtain ⟨B, hB⟩ : ∃ B, B = F0 ++ (l1.take k).flatMap chgF := ⟨_, rfl⟩
      have hBl : B.length ≤ 4 + 4 * n := by rw [hB, List.length_append, chgF_len, hF0l, List.length_take]; omega
      rw [← hB] at hown
      have HO := Lib.hid hown
      have HB := Lib.hid hB
      clear hown hB
      by_cases hlt : k < n
      · obtain ⟨b, off, x, rfl, hbS, hx, hwf, c0, c1, c4, c5⟩ := H.out.chg hlt (fun p hp => (hbel.cell (Nat.lt_trans hp hgW)).trans (belW.cell hp))
        obtain ⟨xt, xk, xg, xv⟩ := x
        dsimp only at c0 c1 c4 c5
        have HSN := Lib.hid (flatMap_snoc (f := chgF) hx)
        obtain ⟨hw1, hw2, hw3⟩ := hwf
        have HWF := Lib.hid (show ∀ y ∈ [xt, xk, bitI xg], I64 y by
          intro y hy
          simp only [List.mem_cons, List.not_mem_nil, or_false] at hy
          rcases hy with rfl | rfl | rfl
          · exact hw1
          · exact hw2
          · exact bitI_wf _)
        have HXV := Lib.hid (txtF_wf hw3)
        clear hx hw1 hw2 hw3
        go_wp2_with fail
        have a0 : (wr.alloc (.cells #[.int .i64 xt, .int .i64 xk, .bool xg, .string xv] 53)).cell? ⟨wr.heap.size, 0, none⟩ = some (.int .i64 xt) := World.cell?_alloc_at _ _ _ _ rfl
        have a1 : (wr.alloc (.cells #[.int .i64 xt, .int .i64 xk, .bool xg, .string xv] 53)).cell? ⟨wr.heap.size, 1, none⟩ = some (.int .i64 xk) := World.cell?_alloc_at _ _ _ _ rfl
        have a2 : (wr.alloc (.cells #[.int .i64 xt, .int .i64 xk, .bool xg, .string xv] 53)).cell? ⟨wr.heap.size, 2, none⟩ = some (.bool xg) := World.cell?_alloc_at _ _ _ _ rfl
        have a3 : (wr.alloc (.cells #[.int .i64 xt, .int .i64 xk, .bool xg, .string xv] 53)).cell? ⟨wr.heap.size, 3, none⟩ = some (.string xv) := World.cell?_alloc_at _ _ _ _ rfl
        obtain ⟨W1, hW1⟩ : ∃ W1, W1 = wr.alloc (.cells #[.int .i64 xt, .int .i64 xk, .bool xg, .string xv] 53) := ⟨_, rfl⟩
        have hW1s : wr.heap.size < W1.heap.size := by rw [hW1]; simp
        have OW1 := Lib.hid (show Own fldRep W1 W.heap.size (fun _ => False) 135 u4 B by rw [hW1]; exact HO.out.alloc _)
        have BW1 := Lib.hid (show Below W.heap.size W W1 by rw [hW1]; exact hbel.alloc hs _)
        have HR1 := Lib.hid (show rowOf u4 ≠ some wr.heap.size from fun e => Nat.lt_irrefl _ (HO.out.row_lt e))
        rw [← hW1] at a0 a1 a2 a3 ⊢
        clear hW1
        have HI := Lib.hid (show IsSl intRep (W1.alloc (.cells #[.int .i64 xt, .int .i64 xk, .int .i64 (bitI xg)] 2)).drew (· < (W1.alloc (.cells #[.int .i64 xt, .int .i64 xk, .int .i64 (bitI xg)] 2)).drew.heap.size) (some ⟨W1.heap.size, 0, none⟩) 3 [xt, xk, bitI xg] from IsSl.newInts (w := W1.drew) (cs := #[.int .i64 xt, .int .i64 xk, .int .i64 (bitI xg)]) [xt, xk, bitI xg] HWF.out rfl rfl (by simp))
        have hba : Below W1.heap.size W1 (W1.alloc (.cells #[.int .i64 xt, .int .i64 xk, .int .i64 (bitI xg)] 2)).drew := below_drewN ((Below.refl _ _).alloc (Nat.le_refl _) _) 1
        have b0 := (hba.cell (p := ⟨wr.heap.size, 0, none⟩) hW1s).trans a0
        have b1 := (hba.cell (p := ⟨wr.heap.size, 1, none⟩) hW1s).trans a1
        have b2 := (hba.cell (p := ⟨wr.heap.size, 2, none⟩) hW1s).trans a2
        have HBA := Lib.hid hba
        clear hba
        go_region_held3 (fun w' => w'.cell? ⟨wr.heap.size, 0, none⟩ = some (.int .i64 xt) ∧ w'.cell? ⟨wr.heap.size, 1, none⟩ = some (.int .i64 xk) ∧ w'.cell? ⟨wr.heap.size, 2, none⟩ = some (.bool xg)) (first | exact ⟨a0, a1, a2⟩ | exact ⟨b0, b1, b2⟩ | exact ⟨p0, p1, p2⟩ | exact ⟨q0, q1, q2⟩)
          (first
            | (go_at_call 84; (with_reducible refine (pbitof_any xg _).mono ?_); rintro e w' ⟨rfl, rfl⟩)
            | (go_at_call 83; (with_reducible refine (ints_any _ 3 3 [xt, xk, bitI xg] _ HI.out (by omega)).mono ?_); rintro e w5 ⟨v5, rfl, own5, bel5⟩; have BEL5 := Lib.hid (HBA.out.trans (bel5.mono HBA.out.size)); have p0 := (BEL5.out.cell (p := ⟨wr.heap.size, 0, none⟩) hW1s).trans a0; have p1 := (BEL5.out.cell (p := ⟨wr.heap.size, 1, none⟩) hW1s).trans a1; have p2 := (BEL5.out.cell (p := ⟨wr.heap.size, 2, none⟩) hW1s).trans a2; have p3 := (BEL5.out.cell (p := ⟨wr.heap.size, 3, none⟩) hW1s).trans a3; have OW5 := Lib.hid (OW1.out.below BEL5.out); obtain ⟨A5, c5, rfl, hlc5, hcm5, hsrc5⟩ := own5.srcOf; have HS5 := Lib.hid (show Src fldRep w5 (fun _ => False) A5 3 ([xt, xk, bitI xg].map numF) from hsrc5 w5 (fun _ => False) flat_fld (Below.refl _ _)); have hs5 := Nat.le_trans BW1.out.size BEL5.out.size; clear own5 bel5 hsrc5)
            | (refine step_append_Own _ rfl (.tmp 30) (.tmp 39) 96 rfl W.heap.size 135 i0 _ 32 Try.underlying96 hi hz0 hz1 hz2 rfl (R := fldRep) (S := fun _ => False) (l := B) (l' := [xt, xk, bitI xg].map numF) u4 rfl OW5.out A5 3 c5 rfl HS5.out (by simp only [maxLen]; omega) (by omega) (by omega) hs5 ?_; intro v6 w6 own6 gr6 at6; have gb6 := gr6.block wr.heap.size (Nat.lt_of_lt_of_le hW1s BEL5.out.size) (fun e => HR1.out e.symm); have q0 := (World.cell?_of_block (a := ⟨wr.heap.size, 0, none⟩) gb6).trans p0; have q1 := (World.cell?_of_block (a := ⟨wr.heap.size, 1, none⟩) gb6).trans p1; have q2 := (World.cell?_of_block (a := ⟨wr.heap.size, 2, none⟩) gb6).trans p2; have q3 := (World.cell?_of_block (a := ⟨wr.heap.size, 3, none⟩) gb6).trans p3; have OW6 := Lib.hid own6; have BW6 := Lib.hid ((BW1.out.trans (BEL5.out.mono BW1.out.size)).grown gr6 hs5 (fun g hg => OW5.out.row_ge hg)); clear own6 gr6 at6 gb6)
            | fail)
        go_wp2_with (first
          | (go_at_call 85; (with_reducible refine (ptxt_any xv _).mono ?_); rintro e w7 ⟨rfl, bel7⟩; have OW7 := Lib.hid (OW6.out.below bel7); have BW7 := Lib.hid (BW6.out.trans (bel7.mono BW6.out.size)); have hs7 := BW7.out.size; clear bel7)
          | (at_builtin; refine wpList_append_Own _ rfl _ _ 96 rfl W.heap.size 135 i0 _ 32 Try.underlying96 hi hz0 hz1 hz2 rfl (R := fldRep) (S := fun _ => False) (l := B ++ [xt, xk, bitI xg].map numF) (l' := [txtF xv]) v6 rfl (OW7.out.alloc _) _ 1 1 rfl ?_ (by rw [List.length_append, List.length_map]; simp only [maxLen, List.length_cons, List.length_nil]; omega) (by rw [List.length_append, List.length_map]; simp only [List.length_cons, List.length_nil]; omega) (by omega) (by simp; omega) ?_; exact Src.new (cs := (txtF xv).cells) ⟨rfl, HXV.out⟩; intro v8 w8 own8 gr8 at8; have OW8 := Lib.hid own8; have BW8 := Lib.hid ((BW7.out.alloc hs7 _).grown gr8 (by simp; omega) (fun g hg => OW7.out.row_ge hg)); clear own8 gr8 at8)
          | fail)
        go_roundw
        case rel => exact ⟨k + 1, by go_num, by omega, by rw [HSN.out, ← List.append_assoc, ← HB.out]; have h8 := OW8.out; rw [List.append_assoc] at h8; exact h8, BW8.out⟩
        case measure => simp [intOf]; omega
      · have HE := Lib.hid (show B = F0 ++ l1.flatMap chgF by rw [HB.out, List.take_of_length_le (by rw [← HL.out]; omega)])
        have e3 : wr.cell? ⟨w.heap.size, 3, none⟩ = some (.slice A2 n2 c2) := (hbel.cell (p := ⟨w.heap.size, 3, none⟩) hgW).trans d3
        have HWN := Lib.hid (show ∀ y ∈ [(n2 : Int)], I64 y by
          intro y hy
          simp only [List.mem_cons, List.not_mem_nil, or_false] at hy
          subst hy
          unfold I64
          omega)
        go_wp2_with (first
          | (go_at_call 83; (with_reducible refine (ints_any _ 1 1 [(n2 : Int)] _ (IsSl.newInts (cs := #[.int .i64 (n2 : Int)]) [(n2 : Int)] HWN.out rfl rfl (by simp)) (by omega)).mono ?_); rintro e w5 ⟨v5, rfl, own5, bel5⟩; have BEL5 := Lib.hid (((Below.refl _ _).alloc (Nat.le_refl _) _).trans (bel5.mono (by simp))); have OW5 := Lib.hid (HO.out.below BEL5.out); obtain ⟨A5, c5, rfl, hlc5, hcm5, hsrc5⟩ := own5.srcOf; have HS5 := Lib.hid (show Src fldRep w5 (fun _ => False) A5 1 [numF (n2 : Int)] from hsrc5 w5 (fun _ => False) flat_fld (Below.refl _ _)); have BW5 := Lib.hid (hbel.trans (BEL5.out.mono hs)); have hs5 := BW5.out.size; clear own5 bel5 hsrc5)
          | (at_builtin; refine wpList_append_Own _ rfl _ _ 96 rfl W.heap.size 135 i0 _ 32 Try.underlying96 hi hz0 hz1 hz2 rfl (R := fldRep) (S := fun _ => False) (l := B) (l' := [numF (n2 : Int)]) u4 rfl OW5.out A5 1 c5 rfl HS5.out (by simp only [maxLen]; omega) (by omega) (by omega) hs5 ?_; intro v6 w6 own6 gr6 at6; have OW6 := Lib.hid own6; have BW6 := Lib.hid (BW5.out.grown gr6 hs5 (fun g hg => OW5.out.row_ge hg)); have f3 : w6.cell? ⟨w.heap.size, 3, none⟩ = some (.slice A2 n2 c2) := (BW6.out.cell (p := ⟨w.heap.size, 3, none⟩) hgW).trans d3; clear own6 gr6 at6)
          | fail)
        obtain ⟨B2, hB2⟩ : ∃ B2, B2 = B ++ [numF (n2 : Int)] := ⟨_, rfl⟩
        rw [← hB2] at OW6
        have hB2l : B2.length ≤ 5 + 4 * n := by rw [hB2, List.length_append]; simp; omega
        have HB2 := Lib.hid hB2
        clear hB2 f3 e3
        go_loopw [4, 58] (fun v i wq => ∃ q : Nat, i = .int .i64 q ∧ q ≤ n2 ∧ Own fldRep wq W.heap.size (fun _ => False) 135 v (B2 ++ (l2.take q).map txtF) ∧ Below W.heap.size W wq) (fun _ i _ => n2 - (intOf i).toNat)
        case atStart => exact ⟨0, rfl, Nat.zero_le _, by simpa using OW6.out, BW6.out⟩
        case round =>
          obtain ⟨q, rfl, hq, hownq, hbelq⟩ := hrel
          have hsq := hbelq.size
          obtain ⟨B3, hB3⟩ : ∃ B3, B3 = B2 ++ (l2.take q).map txtF := ⟨_, rfl⟩
          have hB3l : B3.length ≤ 5 + 4 * n + n2 := by rw [hB3, List.length_append, List.length_map, List.length_take]; omega
          rw [← hB3] at hownq
          have HOQ := Lib.hid hownq
          have HB3 := Lib.hid hB3
          clear hownq hB3
          by_cases hltq : q < n2
          · obtain ⟨b, off, x, rfl, hbS, hx, hxs, c0⟩ := H2.out.str hltq (fun p hp => (hbelq.cell (Nat.lt_trans hp hgW)).trans (belW.cell hp))
            have HSN := Lib.hid (show (l2.take (q + 1)).map txtF = (l2.take q).map txtF ++ [txtF x] by rw [take_snoc hx, List.map_append]; rfl)
            have HXV := Lib.hid (txtF_wf hxs)
            clear hx hxs
            go_wp2_with (first
              | (go_at_call 85; (with_reducible refine (ptxt_any x _).mono ?_); rintro e w7 ⟨rfl, bel7⟩; have OW7 := Lib.hid (HOQ.out.below bel7); have BW7 := Lib.hid (hbelq.trans (bel7.mono hsq)); have hs7 := BW7.out.size; clear bel7)
              | (at_builtin; refine wpList_append_Own _ rfl _ _ 96 rfl W.heap.size 135 i0 _ 32 Try.underlying96 hi hz0 hz1 hz2 rfl (R := fldRep) (S := fun _ => False) (l := B3) (l' := [txtF x]) u4 rfl (OW7.out.alloc _) _ 1 1 rfl ?_ (by simp only [maxLen]; omega) (by omega) (by omega) (by simp; omega) ?_; exact Src.new (cs := (txtF x).cells) ⟨rfl, HXV.out⟩; intro v8 w8 own8 gr8 at8; have OW8 := Lib.hid own8; have BW8 := Lib.hid ((BW7.out.alloc hs7 _).grown gr8 (by simp; omega) (fun g hg => OW7.out.row_ge hg)); clear own8 gr8 at8)
              | fail)
            go_roundw
            case rel => exact ⟨q + 1, by go_num, by omega, by rw [HSN.out, ← List.append_assoc, ← HB3.out]; exact OW8.out, BW8.out⟩
            case measure => simp [intOf]; omega
          · have HE2 := Lib.hid (show B3 = fieldsT ⟨tl, tk, l1, l2, tm⟩ by
              rw [HB3.out, List.take_of_length_le (by rw [← HL2.out]; omega), HB2.out, HE.out, HF0.out, HL.out, HL2.out]; rfl)
            obtain ⟨A9, c9, hu9, hlc9, hcm9, sl9⟩ := HOQ.out.isSlB
            subst hu9
            have SL9 := Lib.hid sl9
            have HB3L := Lib.hid (show B3.length ≤ 281474976710656 by omega)
            obtain ⟨m9, hm9⟩ : ∃ m9, m9 = B3.length := ⟨_, rfl⟩
            rw [← hm9] at SL9 hlc9 HB3L ⊢
            clear sl9 hm9
            go_wp2_with (first
              | (go_at_call 86; (with_reducible refine (encode_any A9 m9 c9 B3 _ SL9.out HB3L.out).mono ?_); rintro e w10 ⟨v10, rfl, own10, bel10⟩)
              | fail)
            go_ret2
            refine ⟨_, by unfold encTE; rw [if_pos HM.out, HE2.out]; rfl, by unfold encTV; rw [if_pos HM.out, ← HE2.out]; exact own10.mono (Nat.le_trans belW.size hsq), belW.trans ((hbelq.trans (bel10.mono hsq)).mono belW.size)⟩
end Go.Proofs.Ytojjeogpggielaa
