/- Plain laws: tables that may be an image, of any ones (the law's right). -/
import Derived.Test.YthhpddiicnjmmaaPutR
import Derived.Test.YthhpddiicnjmmaaImgL
set_option linter.unusedVariables false
set_option linter.unusedSimpArgs false
namespace Go.Proofs.Ythhpddiicnjmmaa
open Go.RowKit

theorem mayR_put : ∀ (l : List Row) (a k : Int) (v : ByteArray), mayR a l = true → a < k → k ≤ 1099511627776 → v.size ≤ 32 → mayR a (putL l k v) = true
  | [], a, k, v, _, h1, h2, h3 => by simp [putL, mayR, h1, h2, h3]
  | r :: t, a, k, v, h, h1, h2, h3 => by
    simp only [mayR, Bool.and_eq_true, decide_eq_true_eq] at h
    obtain ⟨⟨h4, h5, h6⟩, h7⟩ := h
    rw [putL]
    split
    · rename_i hlt
      simp only [mayR, Bool.and_eq_true, decide_eq_true_eq]
      exact ⟨⟨h4, h5, h6⟩, mayR_put t r.key k v h7 hlt h2 h3⟩
    · rename_i hlt
      split
      · rename_i he
        simp only [mayR, Bool.and_eq_true, decide_eq_true_eq]
        exact ⟨⟨h1, h2, h3⟩, by rw [← he]; exact h7⟩
      · rename_i he
        simp only [mayR, Bool.and_eq_true, decide_eq_true_eq]
        exact ⟨⟨h1, h2, h3⟩, ⟨by omega, h5, h6⟩, h7⟩

/-- One row, such as may be. -/
def rowR (r : Row) : Row := ⟨1 + modOf r.key 1099511627776, r.val.extract 0 (min r.val.size 32)⟩
/-- Of the first j rows. -/
def tabN (l : List Row) (j : Nat) : List Row := (l.take j).foldl (fun t r => putL t (rowR r).key (rowR r).val) []
def tabR (l : List Row) : List Row := tabN l 40
def rightT (T : List (List Row)) : List (List Row) := if T = [] then [[]] else (T.take 8).map tabR

theorem rowR_may (r : Row) : 1 ≤ (rowR r).key ∧ (rowR r).key ≤ 1099511627776 ∧ (rowR r).val.size ≤ 32 := by
  have := modOf_range r.key 1099511627776 (by omega)
  refine ⟨by show 1 ≤ 1 + _; omega, by show 1 + _ ≤ _; omega, ?_⟩
  show (r.val.extract 0 (min r.val.size 32)).size ≤ 32
  rw [ByteArray.size_extract]
  omega
theorem fold_may : ∀ (l t : List Row), mayR 0 t = true → mayR 0 (l.foldl (fun t r => putL t (rowR r).key (rowR r).val) t) = true ∧ (l.foldl (fun t r => putL t (rowR r).key (rowR r).val) t).length ≤ t.length + l.length
  | [], t, h => ⟨h, by simp⟩
  | r :: l, t, h => by
    obtain ⟨h1, h2, h3⟩ := rowR_may r
    have := fold_may l (putL t (rowR r).key (rowR r).val) (mayR_put t 0 _ _ h (by omega) h2 h3)
    have h4 := putL_len t (rowR r).key (rowR r).val
    rw [List.foldl_cons]
    exact ⟨this.1, by have := this.2; rw [List.length_cons]; omega⟩
theorem tabN_next {l : List Row} {j : Nat} {y : Row} (h : l[j]? = some y) : tabN l (j + 1) = putL (tabN l j) (rowR y).key (rowR y).val := by
  unfold tabN
  rw [take_snoc h, List.foldl_append]
  rfl
theorem tabN_len (l : List Row) (j : Nat) : (tabN l j).length ≤ j := by
  have h := (fold_may (l.take j) [] rfl).2
  rw [List.length_nil, List.length_take] at h
  unfold tabN
  omega
theorem tabN_all {l : List Row} {j : Nat} (h : l.length ≤ j) (hj : j ≤ 40) : tabN l j = tabR l := by
  unfold tabR tabN
  rw [List.take_of_length_le h, List.take_of_length_le (by omega)]
theorem tabR_may (l : List Row) : mayRows (tabR l) = true ∧ (tabR l).length ≤ 40 := by
  have h := fold_may (l.take 40) [] rfl
  have hl : (l.take 40).length ≤ 40 := by rw [List.length_take]; omega
  have h2 : (tabR l).length ≤ 40 := tabN_len l 40
  refine ⟨?_, h2⟩
  unfold mayRows
  rw [Bool.and_eq_true]
  exact ⟨h.1, decide_eq_true (by omega)⟩
theorem rightT_may (T : List (List Row)) {k : Int} (h0 : 0 ≤ k) (h1 : k ≤ 1099511627776) : mayImg (k, rightT T) = true := by
  unfold mayImg rightT
  split
  · simp [mayRows, mayR]; omega
  · rename_i hT
    have hl : 1 ≤ T.length := by cases T; exact absurd rfl hT; simp
    rw [Bool.and_eq_true]
    refine ⟨decide_eq_true ⟨h0, h1, ?_, ?_⟩, ?_⟩
    · rw [List.length_map, List.length_take]; omega
    · rw [List.length_map, List.length_take]; omega
    · rw [List.all_eq_true]
      intro l hl
      obtain ⟨m, _, rfl⟩ := List.mem_map.1 hl
      exact (tabR_may m).1
end Go.Proofs.Ythhpddiicnjmmaa
