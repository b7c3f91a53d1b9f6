/- Contract of the reference's rows (qanatref07): Put. -/
import Derived.Test.YthhpddiicnjmmaaRowK
import Derived.Test.YthhpddiicnjmmaaHelpL
import Derived.Deep.RegionHeld3
import Derived.Deep.QuietTactic
import Derived.BigQuiet
set_option linter.unusedVariables false
set_option linter.unusedSimpArgs false
namespace Go.Proofs.Ythhpddiicnjmmaa
open Go.RowKit

def putL : List Row → Int → ByteArray → List Row
  | [], k, v => [⟨k, v⟩]
  | r :: t, k, v => if r.key < k then r :: putL t k v else if r.key = k then ⟨k, v⟩ :: t else ⟨k, v⟩ :: r :: t

theorem putL_at : ∀ (l : List Row) (k : Int) (v : ByteArray) (p : Nat), p ≤ l.length → (∀ r ∈ l.take p, r.key < k) → (∀ r, l[p]? = some r → ¬ r.key < k) →
    putL l k v = l.take p ++ [⟨k, v⟩] ++ (if (∃ r, l[p]? = some r ∧ r.key = k) then l.drop (p + 1) else l.drop p)
  | [], k, v, p, hp, _, _ => by
    obtain rfl : p = 0 := by simpa using hp
    simp [putL]
  | r :: t, k, v, 0, _, _, h => by
    have h1 := h r rfl
    rw [putL, if_neg h1]
    by_cases e : r.key = k
    · rw [if_pos e, if_pos ⟨r, rfl, e⟩]; rfl
    · rw [if_neg e, if_neg (by rintro ⟨r', hr, he⟩; obtain rfl : r = r' := by simpa using hr
                               exact e he)]; rfl
  | r :: t, k, v, p + 1, hp, ha, h => by
    have h1 : r.key < k := ha r (by simp)
    rw [putL, if_pos h1, putL_at t k v p (by simpa using hp) (fun x hx => ha x (by simp [hx])) (fun x hx => h x (by simpa using hx))]
    simp

theorem putL_len : ∀ (l : List Row) (k : Int) (v : ByteArray), (putL l k v).length ≤ l.length + 1
  | [], _, _ => by simp [putL]
  | r :: t, k, v => by
    rw [putL]
    split
    · have := putL_len t k v; simp; omega
    · split <;> simp

def PutPost (w : World) (l' : List Row) (e : Ending) (w' : World) : Prop := ∃ v b, e = .returned (.tuple #[v, .bool b]) ∧ Own rowRep w' w.heap.size (fun _ => False) 80 v l' ∧ Below w.heap.size w w'

set_option maxHeartbeats 8000000 in
set_option maxRecDepth 100000 in
theorem rowPut_any (A : Option Addr) (n c : Nat) (l : List Row) (key : Int) (val : ByteArray) (w : World) (U : Nat → Prop) (hU : ∀ k, U k → k < w.heap.size) (h : IsSl rowRep w U A n l) (hm : n ≤ 100000) (hc : n ≤ c) (hcm : c ≤ maxLen) (hk : I64 key) (hv : val.size ≤ maxLen) :
    Calls Try.prog 58 #[.slice A n c, .int .i64 key, .string val] w (PutPost w (putL l key val)) := by
  obtain ⟨i0, hi, hz0, hz1, hz2⟩ := info_parts info_row
  unfold maxLen at hcm
  have H := Lib.hid h
  have HN := Lib.hid h.len
  have HU := Lib.hid hU
  have HWX := Lib.hid (show (⟨key, val⟩ : Row).wf from ⟨hk, hv⟩)
  obtain ⟨W0, hW0⟩ : ∃ W0, W0 = w.alloc (.cells #[] 80) := ⟨_, rfl⟩
  have B0 := Lib.hid (show Below w.heap.size w W0 by rw [hW0]; exact (Below.refl _ _).alloc (Nat.le_refl _) _)
  have HW0 := Lib.hid hW0
  clear h hU hk hv hW0
  go_enter Try.func58, Try.ntmps58
  go_wp2
  go_loop [8] (fun i => ∃ p : Nat, i = .int .i64 p ∧ p ≤ n ∧ ∀ r ∈ l.take p, r.key < key) (fun i => n - (intOf i).toNat)
  case atStart => exact ⟨0, rfl, Nat.zero_le _, by simp⟩
  case round =>
    obtain ⟨p, rfl, hp, hall⟩ := hrel
    have HALL := Lib.hid hall
    clear hall
    have SRC1 := Lib.hid (show Src rowRep W0 (fun _ => False) A p (l.take p) from ((H.out.cutTo hp)).srcK flat_row (fun q hq => B0.out.cell (HU.out _ hq)))
    have hpc : (p : Int) ≤ (c : Int) := by omega
    have hp0 : (0 : Int) ≤ (p : Int) := by omega
    by_cases hlt : p < n
    · have hd : decide ((p : Int) < (n : Int)) = true := decide_eq_true (by omega)
      have hpi : (p : Int) < (n : Int) := by omega
      obtain ⟨b0, off, x, rfl, hb, hx, hwf, k0, k1⟩ := H.out.row hlt (fun q hq => rfl)
      have HX := Lib.hid hx
      obtain ⟨xk, xv⟩ := x
      dsimp only at k0 k1
      clear hx
      by_cases e : xk < key
      · have d1 : decide (xk < key) = true := decide_eq_true e
        have HS := Lib.hid (show ∀ r ∈ l.take (p + 1), r.key < key by
          rw [take_snoc HX.out]
          intro r hr
          rcases List.mem_append.1 hr with hr | hr
          · exact HALL.out r hr
          · obtain rfl : r = ⟨xk, xv⟩ := by simpa using hr
            exact e)
        clear e
        go_wp2
        go_round
        case rel => exact ⟨p + 1, by go_num, by omega, HS.out⟩
        case measure => simp [intOf]; omega
      · have d1 : decide (xk < key) = false := decide_eq_false e
        have HPUT := Lib.hid (putL_at l key val p (by rw [← HN.out]; exact hp) HALL.out (fun r hr => by rw [HX.out] at hr; obtain rfl := Option.some.inj hr; exact e))
        have hbw : b0 < w.heap.size := HU.out _ hb
        have kW : W0.cell? ⟨b0, off + p * 2, none⟩ = some (.int .i64 xk) := (B0.out.cell hbw).trans k0
        by_cases e2 : xk = key
        · have d2 : (xk == key) = true := by simpa using e2
          have HP2 := Lib.hid (show putL l key val = l.take p ++ [⟨key, val⟩] ++ l.drop (p + 1) by rw [HPUT.out, if_pos ⟨_, HX.out, e2⟩])
          clear e e2
          have hpc1 : (p : Int) + 1 ≤ (n : Int) := by omega
          have hnc : (n : Int) ≤ (c : Int) := by omega
          by_cases hcp : c = p + 1
          · subst hcp
            obtain rfl : n = p + 1 := by omega
            go_wp2_with (first
              | (at_builtin; rw [← HW0.out]; refine wpList_append_Own _ rfl _ _ 81 rfl w.heap.size 80 i0 _ 24 Try.underlying81 hi hz0 hz1 hz2 rfl (R := rowRep) (S := fun _ => False) (l := []) (l' := l.take p) (.slice (some ⟨w.heap.size, 0, none⟩) 0 0) rfl (Own.nil _ _ _ (fun _ h => h.elim) _ _) (some ⟨b0, off, none⟩) p (p + 1) rfl SRC1.out (by simp [maxLen]; omega) (by simp; omega) (by omega) B0.out.size ?_; intro v1 w1 own1 gr1 at1; have bel1 := B0.out.grown gr1 B0.out.size (by intro k hk; simp [rowOf] at hk); simp only [List.nil_append] at own1; obtain ⟨A1, c1, rfl, _, _, _⟩ := own1.isSlB; obtain ⟨q1, hq1⟩ : ∃ q1, q1 = (l.take p).length := ⟨_, rfl⟩; rw [← hq1] at own1 ⊢; have HQ1 := Lib.hid hq1; have OW1 := Lib.hid own1; have B1 := Lib.hid bel1; clear gr1 at1 own1 bel1 hq1)
              | (at_builtin; refine wpList_append_Own _ rfl _ _ 81 rfl w.heap.size 80 i0 _ 24 Try.underlying81 hi hz0 hz1 hz2 rfl (R := rowRep) (S := fun _ => False) (l := l.take p) (l' := [⟨key, val⟩]) (.slice A1 q1 c1) rfl (OW1.out.alloc _) _ 1 1 rfl (Src.new (cs := [.int .i64 key, .string val]) ⟨rfl, HWX.out⟩) (by rw [List.length_take]; simp only [maxLen]; omega) (by rw [List.length_take]; omega) (by omega) (by have := B1.out.size; simp; omega) ?_; intro v2 w2 own2 gr2 at2; have bel2 := (B1.out.alloc B1.out.size _).grown gr2 (by have := B1.out.size; simp; omega) (fun k hk => OW1.out.row_ge hk); obtain ⟨A2, c2, rfl, _, _, _⟩ := own2.isSlB; obtain ⟨q2, hq2⟩ : ∃ q2, q2 = (l.take p ++ [(⟨key, val⟩ : Row)]).length := ⟨_, rfl⟩; rw [← hq2] at own2 ⊢; have HQ2 := Lib.hid hq2; have OW2 := Lib.hid own2; have B2 := Lib.hid bel2; have kW2 := (bel2.cell (p := ⟨b0, off + p * 2, none⟩) hbw).trans k0; clear gr2 at2 own2 bel2 hq2)
              | (at_builtin; refine wpList_append_Own _ rfl _ _ 81 rfl w.heap.size 80 i0 _ 24 Try.underlying81 hi hz0 hz1 hz2 rfl (R := rowRep) (S := fun _ => False) (l := l.take p ++ [⟨key, val⟩]) (l' := l.drop (p + 1)) (.slice A2 q2 c2) rfl OW2.out _ _ _ rfl (by rw [List.drop_eq_nil_of_le (by rw [← HN.out]; exact Nat.le_refl _)]; exact Src.nil) (by rw [List.length_append, List.length_take, List.length_singleton]; simp only [maxLen]; omega) (by rw [List.length_append, List.length_take, List.length_singleton]; omega) (by omega) B2.out.size ?_; intro v3 w3 own3 gr3 at3; have OW3 := Lib.hid own3; have B3 := Lib.hid (B2.out.grown gr3 B2.out.size (fun k hk => OW2.out.row_ge hk)); clear own3 gr3 at3)
              | fail)
            go_ret2
            rw [HP2.out]
            exact ⟨_, _, rfl, OW3.out, B3.out⟩
          · go_wp2_with (first
              | (at_builtin; rw [← HW0.out]; refine wpList_append_Own _ rfl _ _ 81 rfl w.heap.size 80 i0 _ 24 Try.underlying81 hi hz0 hz1 hz2 rfl (R := rowRep) (S := fun _ => False) (l := []) (l' := l.take p) (.slice (some ⟨w.heap.size, 0, none⟩) 0 0) rfl (Own.nil _ _ _ (fun _ h => h.elim) _ _) (some ⟨b0, off, none⟩) p c rfl SRC1.out (by simp [maxLen]; omega) (by simp; omega) (by omega) B0.out.size ?_; intro v1 w1 own1 gr1 at1; have bel1 := B0.out.grown gr1 B0.out.size (by intro k hk; simp [rowOf] at hk); simp only [List.nil_append] at own1; obtain ⟨A1, c1, rfl, _, _, _⟩ := own1.isSlB; obtain ⟨q1, hq1⟩ : ∃ q1, q1 = (l.take p).length := ⟨_, rfl⟩; rw [← hq1] at own1 ⊢; have HQ1 := Lib.hid hq1; have OW1 := Lib.hid own1; have B1 := Lib.hid bel1; clear gr1 at1 own1 bel1 hq1)
              | (at_builtin; refine wpList_append_Own _ rfl _ _ 81 rfl w.heap.size 80 i0 _ 24 Try.underlying81 hi hz0 hz1 hz2 rfl (R := rowRep) (S := fun _ => False) (l := l.take p) (l' := [⟨key, val⟩]) (.slice A1 q1 c1) rfl (OW1.out.alloc _) _ 1 1 rfl (Src.new (cs := [.int .i64 key, .string val]) ⟨rfl, HWX.out⟩) (by rw [List.length_take]; simp only [maxLen]; omega) (by rw [List.length_take]; omega) (by omega) (by have := B1.out.size; simp; omega) ?_; intro v2 w2 own2 gr2 at2; have bel2 := (B1.out.alloc B1.out.size _).grown gr2 (by have := B1.out.size; simp; omega) (fun k hk => OW1.out.row_ge hk); obtain ⟨A2, c2, rfl, _, _, _⟩ := own2.isSlB; obtain ⟨q2, hq2⟩ : ∃ q2, q2 = (l.take p ++ [(⟨key, val⟩ : Row)]).length := ⟨_, rfl⟩; rw [← hq2] at own2 ⊢; have HQ2 := Lib.hid hq2; have OW2 := Lib.hid own2; have B2 := Lib.hid bel2; have kW2 := (bel2.cell (p := ⟨b0, off + p * 2, none⟩) hbw).trans k0; clear gr2 at2 own2 bel2 hq2)
              | (at_builtin; refine wpList_append_Own _ rfl _ _ 81 rfl w.heap.size 80 i0 _ 24 Try.underlying81 hi hz0 hz1 hz2 rfl (R := rowRep) (S := fun _ => False) (l := l.take p ++ [⟨key, val⟩]) (l' := l.drop (p + 1)) (.slice A2 q2 c2) rfl OW2.out _ _ _ rfl (((H.out.from_ (lo := p + 1) (by omega) (A' := _) (fun _ b o h => by injection h with h; injection h with h1 h2 h3; subst h1 h2; rfl)).srcK flat_row (fun q hq => B2.out.cell (HU.out _ hq)))) (by rw [List.length_append, List.length_take, List.length_singleton]; simp only [maxLen]; omega) (by rw [List.length_append, List.length_take, List.length_singleton]; omega) (by omega) B2.out.size ?_; intro v3 w3 own3 gr3 at3; have OW3 := Lib.hid own3; have B3 := Lib.hid (B2.out.grown gr3 B2.out.size (fun k hk => OW2.out.row_ge hk)); clear own3 gr3 at3)
              | fail)
            go_ret2
            rw [HP2.out]
            exact ⟨_, _, rfl, OW3.out, B3.out⟩
        · have d2 : (xk == key) = false := by simpa using e2
          have HP2 := Lib.hid (show putL l key val = l.take p ++ [⟨key, val⟩] ++ l.drop p by rw [HPUT.out, if_neg (by rintro ⟨r, hr, he⟩; rw [HX.out] at hr; obtain rfl := Option.some.inj hr; exact e2 he)])
          clear e e2
          go_wp2_with (first
            | (at_builtin; rw [← HW0.out]; refine wpList_append_Own _ rfl _ _ 81 rfl w.heap.size 80 i0 _ 24 Try.underlying81 hi hz0 hz1 hz2 rfl (R := rowRep) (S := fun _ => False) (l := []) (l' := l.take p) (.slice (some ⟨w.heap.size, 0, none⟩) 0 0) rfl (Own.nil _ _ _ (fun _ h => h.elim) _ _) (some ⟨b0, off, none⟩) p c rfl SRC1.out (by simp [maxLen]; omega) (by simp; omega) (by omega) B0.out.size ?_; intro v1 w1 own1 gr1 at1; have bel1 := B0.out.grown gr1 B0.out.size (by intro k hk; simp [rowOf] at hk); simp only [List.nil_append] at own1; obtain ⟨A1, c1, rfl, _, _, _⟩ := own1.isSlB; obtain ⟨q1, hq1⟩ : ∃ q1, q1 = (l.take p).length := ⟨_, rfl⟩; rw [← hq1] at own1 ⊢; have HQ1 := Lib.hid hq1; have OW1 := Lib.hid own1; have B1 := Lib.hid bel1; clear gr1 at1 own1 bel1 hq1)
            | (at_builtin; refine wpList_append_Own _ rfl _ _ 81 rfl w.heap.size 80 i0 _ 24 Try.underlying81 hi hz0 hz1 hz2 rfl (R := rowRep) (S := fun _ => False) (l := l.take p) (l' := [⟨key, val⟩]) (.slice A1 q1 c1) rfl (OW1.out.alloc _) _ 1 1 rfl (Src.new (cs := [.int .i64 key, .string val]) ⟨rfl, HWX.out⟩) (by rw [List.length_take]; simp only [maxLen]; omega) (by rw [List.length_take]; omega) (by omega) (by have := B1.out.size; simp; omega) ?_; intro v2 w2 own2 gr2 at2; have bel2 := (B1.out.alloc B1.out.size _).grown gr2 (by have := B1.out.size; simp; omega) (fun k hk => OW1.out.row_ge hk); obtain ⟨A2, c2, rfl, _, _, _⟩ := own2.isSlB; obtain ⟨q2, hq2⟩ : ∃ q2, q2 = (l.take p ++ [(⟨key, val⟩ : Row)]).length := ⟨_, rfl⟩; rw [← hq2] at own2 ⊢; have HQ2 := Lib.hid hq2; have OW2 := Lib.hid own2; have B2 := Lib.hid bel2; have kW2 := (bel2.cell (p := ⟨b0, off + p * 2, none⟩) hbw).trans k0; clear gr2 at2 own2 bel2 hq2)
            | (at_builtin; refine wpList_append_Own _ rfl _ _ 81 rfl w.heap.size 80 i0 _ 24 Try.underlying81 hi hz0 hz1 hz2 rfl (R := rowRep) (S := fun _ => False) (l := l.take p ++ [⟨key, val⟩]) (l' := l.drop p) (.slice A2 q2 c2) rfl OW2.out _ _ _ rfl (((H.out.from_ (lo := p) (by omega) (A' := _) (fun _ b o h => by injection h with h; injection h with h1 h2 h3; subst h1 h2; rfl)).srcK flat_row (fun q hq => B2.out.cell (HU.out _ hq)))) (by rw [List.length_append, List.length_take, List.length_singleton]; simp only [maxLen]; omega) (by rw [List.length_append, List.length_take, List.length_singleton]; omega) (by omega) B2.out.size ?_; intro v3 w3 own3 gr3 at3; have OW3 := Lib.hid own3; have B3 := Lib.hid (B2.out.grown gr3 B2.out.size (fun k hk => OW2.out.row_ge hk)); clear own3 gr3 at3)
            | fail)
          go_ret2
          rw [HP2.out]
          exact ⟨_, _, rfl, OW3.out, B3.out⟩
    · obtain rfl : n = p := by omega
      have hd : decide ((n : Int) < (n : Int)) = false := by simp
      have HP2 := Lib.hid (show putL l key val = l.take n ++ [⟨key, val⟩] ++ l.drop n by
        rw [putL_at l key val n (by rw [← HN.out]; exact Nat.le_refl _) HALL.out (fun r hr => by rw [List.getElem?_eq_none (by rw [← HN.out]; exact Nat.le_refl _)] at hr; cases hr), if_neg (by rintro ⟨r, hr, _⟩; rw [List.getElem?_eq_none (by rw [← HN.out]; exact Nat.le_refl _)] at hr; cases hr)])
      by_cases hcp : c = n
      · obtain rfl : n = c := hcp.symm
        go_wp2_with (first
          | (at_builtin; rw [← HW0.out]; refine wpList_append_Own _ rfl _ _ 81 rfl w.heap.size 80 i0 _ 24 Try.underlying81 hi hz0 hz1 hz2 rfl (R := rowRep) (S := fun _ => False) (l := []) (l' := l.take n) (.slice (some ⟨w.heap.size, 0, none⟩) 0 0) rfl (Own.nil _ _ _ (fun _ h => h.elim) _ _) A n n rfl SRC1.out (by simp [maxLen]; omega) (by simp; omega) (by omega) B0.out.size ?_; intro v1 w1 own1 gr1 at1; have bel1 := B0.out.grown gr1 B0.out.size (by intro k hk; simp [rowOf] at hk); simp only [List.nil_append] at own1; obtain ⟨A1, c1, rfl, _, _, _⟩ := own1.isSlB; obtain ⟨q1, hq1⟩ : ∃ q1, q1 = (l.take n).length := ⟨_, rfl⟩; rw [← hq1] at own1 ⊢; have HQ1 := Lib.hid hq1; have OW1 := Lib.hid own1; have B1 := Lib.hid bel1; clear gr1 at1 own1 bel1 hq1)
          | (at_builtin; refine wpList_append_Own _ rfl _ _ 81 rfl w.heap.size 80 i0 _ 24 Try.underlying81 hi hz0 hz1 hz2 rfl (R := rowRep) (S := fun _ => False) (l := l.take n) (l' := [⟨key, val⟩]) (.slice A1 q1 c1) rfl (OW1.out.alloc _) _ 1 1 rfl (Src.new (cs := [.int .i64 key, .string val]) ⟨rfl, HWX.out⟩) (by rw [List.length_take]; simp only [maxLen]; omega) (by rw [List.length_take]; omega) (by omega) (by have := B1.out.size; simp; omega) ?_; intro v2 w2 own2 gr2 at2; have bel2 := (B1.out.alloc B1.out.size _).grown gr2 (by have := B1.out.size; simp; omega) (fun k hk => OW1.out.row_ge hk); obtain ⟨A2, c2, rfl, _, _, _⟩ := own2.isSlB; obtain ⟨q2, hq2⟩ : ∃ q2, q2 = (l.take n ++ [(⟨key, val⟩ : Row)]).length := ⟨_, rfl⟩; rw [← hq2] at own2 ⊢; have HQ2 := Lib.hid hq2; have OW2 := Lib.hid own2; have B2 := Lib.hid bel2; clear gr2 at2 own2 bel2 hq2)
          | (at_builtin; refine wpList_append_Own _ rfl _ _ 81 rfl w.heap.size 80 i0 _ 24 Try.underlying81 hi hz0 hz1 hz2 rfl (R := rowRep) (S := fun _ => False) (l := l.take n ++ [⟨key, val⟩]) (l' := l.drop n) (.slice A2 q2 c2) rfl OW2.out _ _ _ rfl (by rw [List.drop_eq_nil_of_le (by rw [← HN.out]; exact Nat.le_refl _)]; exact Src.nil) (by rw [List.length_append, List.length_take, List.length_singleton]; simp only [maxLen]; omega) (by rw [List.length_append, List.length_take, List.length_singleton]; omega) (by omega) B2.out.size ?_; intro v3 w3 own3 gr3 at3; have OW3 := Lib.hid own3; have B3 := Lib.hid (B2.out.grown gr3 B2.out.size (fun k hk => OW2.out.row_ge hk)); clear own3 gr3 at3)
          | fail)
        go_ret2
        rw [HP2.out]
        exact ⟨_, _, rfl, OW3.out, B3.out⟩
      · go_wp2_with (first
          | (at_builtin; rw [← HW0.out]; refine wpList_append_Own _ rfl _ _ 81 rfl w.heap.size 80 i0 _ 24 Try.underlying81 hi hz0 hz1 hz2 rfl (R := rowRep) (S := fun _ => False) (l := []) (l' := l.take n) (.slice (some ⟨w.heap.size, 0, none⟩) 0 0) rfl (Own.nil _ _ _ (fun _ h => h.elim) _ _) A n c rfl SRC1.out (by simp [maxLen]; omega) (by simp; omega) (by omega) B0.out.size ?_; intro v1 w1 own1 gr1 at1; have bel1 := B0.out.grown gr1 B0.out.size (by intro k hk; simp [rowOf] at hk); simp only [List.nil_append] at own1; obtain ⟨A1, c1, rfl, _, _, _⟩ := own1.isSlB; obtain ⟨q1, hq1⟩ : ∃ q1, q1 = (l.take n).length := ⟨_, rfl⟩; rw [← hq1] at own1 ⊢; have HQ1 := Lib.hid hq1; have OW1 := Lib.hid own1; have B1 := Lib.hid bel1; clear gr1 at1 own1 bel1 hq1)
          | (at_builtin; refine wpList_append_Own _ rfl _ _ 81 rfl w.heap.size 80 i0 _ 24 Try.underlying81 hi hz0 hz1 hz2 rfl (R := rowRep) (S := fun _ => False) (l := l.take n) (l' := [⟨key, val⟩]) (.slice A1 q1 c1) rfl (OW1.out.alloc _) _ 1 1 rfl (Src.new (cs := [.int .i64 key, .string val]) ⟨rfl, HWX.out⟩) (by rw [List.length_take]; simp only [maxLen]; omega) (by rw [List.length_take]; omega) (by omega) (by have := B1.out.size; simp; omega) ?_; intro v2 w2 own2 gr2 at2; have bel2 := (B1.out.alloc B1.out.size _).grown gr2 (by have := B1.out.size; simp; omega) (fun k hk => OW1.out.row_ge hk); obtain ⟨A2, c2, rfl, _, _, _⟩ := own2.isSlB; obtain ⟨q2, hq2⟩ : ∃ q2, q2 = (l.take n ++ [(⟨key, val⟩ : Row)]).length := ⟨_, rfl⟩; rw [← hq2] at own2 ⊢; have HQ2 := Lib.hid hq2; have OW2 := Lib.hid own2; have B2 := Lib.hid bel2; clear gr2 at2 own2 bel2 hq2)
          | (at_builtin; refine wpList_append_Own _ rfl _ _ 81 rfl w.heap.size 80 i0 _ 24 Try.underlying81 hi hz0 hz1 hz2 rfl (R := rowRep) (S := fun _ => False) (l := l.take n ++ [⟨key, val⟩]) (l' := l.drop n) (.slice A2 q2 c2) rfl OW2.out _ _ _ rfl (by rw [List.drop_eq_nil_of_le (by rw [← HN.out]; exact Nat.le_refl _)]; exact Src.nil) (by rw [List.length_append, List.length_take, List.length_singleton]; simp only [maxLen]; omega) (by rw [List.length_append, List.length_take, List.length_singleton]; omega) (by omega) B2.out.size ?_; intro v3 w3 own3 gr3 at3; have OW3 := Lib.hid own3; have B3 := Lib.hid (B2.out.grown gr3 B2.out.size (fun k hk => OW2.out.row_ge hk)); clear own3 gr3 at3)
          | fail)
        go_ret2
        rw [HP2.out]
        exact ⟨_, _, rfl, OW3.out, B3.out⟩
end Go.Proofs.Ythhpddiicnjmmaa
