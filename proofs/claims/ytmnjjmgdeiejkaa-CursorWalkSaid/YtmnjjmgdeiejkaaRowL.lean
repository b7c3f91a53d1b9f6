/- Plain facts on lists of rows that rise by key: a put keeps them rising; what lies behind a key. No program. -/
import Derived.Test.YtmnjjmgdeiejkaaPut
namespace Go.Proofs.Ytmnjjmgdeiejkaa

/-- Keys rise, and lie above lo. -/
def Rise : Int → List Row → Prop
  | _, [] => True
  | lo, r :: t => lo < r.key ∧ Rise r.key t

def putR : List Row → Int → ByteArray → List Row
  | [], k, v => [⟨k, v⟩]
  | r :: t, k, v => if r.key < k then r :: putR t k v else if r.key = k then ⟨k, v⟩ :: t else ⟨k, v⟩ :: r :: t

theorem putL_eq : ∀ (l : List Row) (k : Int) (v : ByteArray), putL l k v = putR l k v
  | [], k, v => by simp [putL, posOf, putR]
  | r :: t, k, v => by
    have ih := putL_eq t k v
    unfold putR
    by_cases h : r.key < k
    · rw [if_pos h, ← ih]
      unfold putL
      have hp : posOf (r :: t) k = posOf t k + 1 := by rw [posOf, if_pos h]
      rw [hp]
      simp only [List.getElem?_cons_succ, List.take_succ_cons, List.cons_append]
      cases hx : t[posOf t k]? with
      | none => simp
      | some x => by_cases hk : x.key = k <;> simp [hk]
    · rw [if_neg h]
      have hp : posOf (r :: t) k = 0 := by rw [posOf, if_neg h]
      unfold putL
      rw [hp]
      by_cases hk : r.key = k <;> simp [hk]

theorem putR_rise : ∀ {l : List Row} {lo k : Int} {v : ByteArray}, Rise lo l → lo < k → Rise lo (putR l k v)
  | [], lo, k, v, _, hk => ⟨hk, trivial⟩
  | r :: t, lo, k, v, h, hk => by
    unfold putR
    by_cases h1 : r.key < k
    · rw [if_pos h1]
      exact ⟨h.1, putR_rise h.2 h1⟩
    · rw [if_neg h1]
      by_cases h2 : r.key = k
      · rw [if_pos h2]
        exact ⟨hk, by have := h.2; rw [h2] at this; exact this⟩
      · rw [if_neg h2]
        exact ⟨hk, by show k < r.key; omega, h.2⟩

theorem putR_len : ∀ (l : List Row) (k : Int) (v : ByteArray), (putR l k v).length ≤ l.length + 1
  | [], k, v => by simp [putR]
  | r :: t, k, v => by
    unfold putR
    have := putR_len t k v
    split
    · simp; omega
    · split <;> simp

theorem lastKey_cons (r : Row) (t : List Row) (a : Int) : lastKey (r :: t) a = lastKey t r.key := by
  unfold lastKey
  cases t with
  | nil => rfl
  | cons s u => simp [List.getLast?_cons]

theorem lastKey_ge : ∀ {l : List Row} {lo : Int}, Rise lo l → lo ≤ lastKey l lo
  | [], lo, _ => Int.le_refl _
  | r :: t, lo, h => by
    rw [lastKey_cons]
    have := lastKey_ge h.2
    have := h.1
    omega

theorem rise_take : ∀ {l : List Row} {lo : Int} (m : Nat), Rise lo l → Rise lo (l.take m)
  | _, _, 0, _ => trivial
  | [], _, _ + 1, _ => trivial
  | _ :: _, _, m + 1, h => ⟨h.1, rise_take m h.2⟩

theorem behind_all : ∀ {l : List Row} {lo a : Int}, Rise lo l → a ≤ lo → behind l a = l
  | [], _, _, _, _ => rfl
  | r :: t, lo, a, h, ha => by
    have h1 := h.1
    unfold behind
    rw [List.filter_cons_of_pos (by simp; omega)]
    have := behind_all (a := a) h.2 (by omega)
    unfold behind at this
    rw [this]

theorem behind_last : ∀ {l : List Row} {lo : Int} (m : Nat), Rise lo l → behind l (lastKey (l.take m) lo) = l.drop m
  | l, lo, 0, h => by rw [List.take_zero, lastKey_nil, List.drop_zero]; exact behind_all h (Int.le_refl _)
  | [], lo, m + 1, _ => by simp [behind]
  | r :: t, lo, m + 1, h => by
    rw [List.take_succ_cons, lastKey_cons, List.drop_succ_cons]
    have hge := lastKey_ge (rise_take m h.2)
    have ih := behind_last m h.2
    unfold behind at ih ⊢
    rw [List.filter_cons_of_neg (by simp; omega), ih]

theorem lastKey_append (l l' : List Row) (a : Int) : lastKey (l ++ l') a = lastKey l' (lastKey l a) := by
  induction l generalizing a with
  | nil => rfl
  | cons r t ih => rw [List.cons_append, lastKey_cons, ih, lastKey_cons]

/-- One chunk more. -/
theorem chunk_step {l : List Row} {k m : Nat} (h : Rise 0 l) :
    afterL l (lastKey (l.take m) 0) k = (l.drop m).take k ∧ lastKey ((l.drop m).take k) (lastKey (l.take m) 0) = lastKey (l.take (m + k)) 0 ∧ lastKey (l.take m) 0 ≤ lastKey (l.take (m + k)) 0 ∧ ((l.drop m).take k).length = min k (l.length - m) := by
  have e : l.take (m + k) = l.take m ++ (l.drop m).take k := List.take_add
  refine ⟨by unfold afterL; rw [behind_last m h], by rw [e, lastKey_append], ?_, by simp⟩
  have hr : Rise (lastKey (l.take m) 0) ((l.drop m).take k) := rise_take k (by
    clear e
    have : ∀ {l : List Row} {lo : Int} (m : Nat), Rise lo l → Rise (lastKey (l.take m) lo) (l.drop m) := by
      intro l
      induction l with
      | nil => intro lo m _; simp [Rise]
      | cons r t ih =>
        intro lo m h
        cases m with
        | zero => exact h
        | succ m => rw [List.take_succ_cons, lastKey_cons, List.drop_succ_cons]; exact ih m h.2
    exact this m h)
  rw [e, lastKey_append]
  exact lastKey_ge hr

theorem leftOf_last {n k j : Nat} (hk : 0 < k) (h1 : j * k ≤ n) (h2 : n < j * k + k) (hn : n ≤ 1000000) : leftOf (n : Int) (k : Int) = (j : Int) + 1 := by
  unfold leftOf
  rw [if_neg (by omega), Int.min_eq_left (by omega)]
  have : n / k = j := by
    rw [Nat.div_eq_iff hk]
    constructor
    · omega
    · rw [Nat.mul_comm] at h1 h2
      rw [Nat.mul_comm]
      omega
  have e : (n : Int) / (k : Int) = ((n / k : Nat) : Int) := by simp
  rw [e, this]

/-- The rows put one behind the other: keys from 1 to 1000. -/
def walked (rows : List Row) : List Row := rows.foldl (fun l r => putL l (1 + modOf r.key 1000) r.val) []

theorem walked_snoc (rows : List Row) (r : Row) : walked (rows ++ [r]) = putL (walked rows) (1 + modOf r.key 1000) r.val := by
  unfold walked; rw [List.foldl_append]; rfl

theorem walked_rise (rows : List Row) : Rise 0 (walked rows) ∧ (walked rows).length ≤ rows.length := by
  suffices h : ∀ (n : Nat) (rows : List Row), rows.length = n → Rise 0 (walked rows) ∧ (walked rows).length ≤ rows.length from h _ rows rfl
  intro n
  induction n with
  | zero => intro rows h; have := List.eq_nil_of_length_eq_zero h; subst this; exact ⟨trivial, Nat.le_refl _⟩
  | succ n ih =>
    intro rows h
    obtain ⟨r, t, rfl⟩ : ∃ r t, rows = t ++ [r] := by
      have hne : rows ≠ [] := by rintro rfl; simp at h
      exact ⟨rows.getLast hne, rows.dropLast, (List.dropLast_concat_getLast hne).symm⟩
    obtain ⟨h1, h2⟩ := ih t (by simp at h; exact h)
    rw [walked_snoc, putL_eq]
    have hm := modOf_range r.key 1000 (by omega)
    have hl := putR_len (walked t) (1 + modOf r.key 1000) r.val
    exact ⟨putR_rise h1 (by omega), by simp; omega⟩

end Go.Proofs.Ytmnjjmgdeiejkaa
