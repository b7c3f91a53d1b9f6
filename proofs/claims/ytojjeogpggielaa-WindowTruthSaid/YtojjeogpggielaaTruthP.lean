/- Plain laws of tables of rising rows: what changes make of them; what a chunk that is read between two marks tells. -/
import Derived.Test.YtojjeogpggielaaSet5
set_option linter.unusedVariables false
set_option linter.unusedSimpArgs false
namespace Go.Proofs.Ytojjeogpggielaa
open Go.RowKit

def Srt (l : List Row) : Prop := l.Pairwise (fun a b => a.key < b.key)
def KeysIn (l : List Row) : Prop := ∀ x ∈ l, 1 ≤ x.key ∧ x.key ≤ 1099511627776

theorem mem_putL : ∀ (l : List Row) (k : Int) (v : ByteArray) (x : Row), Srt l → (x ∈ putL l k v ↔ x = ⟨k, v⟩ ∨ (x ∈ l ∧ ¬ x.key = k))
  | [], k, v, x, _ => by simp [putL]
  | r :: t, k, v, x, h => by
    have ht : Srt t := (List.pairwise_cons.1 h).2
    have hr := (List.pairwise_cons.1 h).1
    rw [putL]
    by_cases h1 : r.key < k
    · rw [if_pos h1, List.mem_cons, mem_putL t k v x ht, List.mem_cons]
      constructor
      · rintro (rfl | h2 | h2)
        · exact .inr ⟨.inl rfl, by omega⟩
        · exact .inl h2
        · exact .inr ⟨.inr h2.1, h2.2⟩
      · rintro (h2 | ⟨h2 | h2, h3⟩)
        · exact .inr (.inl h2)
        · exact .inl h2
        · exact .inr (.inr ⟨h2, h3⟩)
    · rw [if_neg h1]
      by_cases h2 : r.key = k
      · rw [if_pos h2, List.mem_cons, List.mem_cons]
        constructor
        · rintro (h3 | h3)
          · exact .inl h3
          · exact .inr ⟨.inr h3, by have := hr x h3; omega⟩
        · rintro (h3 | ⟨h3 | h3, h4⟩)
          · exact .inl h3
          · subst h3; exact absurd h2 h4
          · exact .inr h3
      · rw [if_neg h2, List.mem_cons, List.mem_cons]
        constructor
        · rintro (h3 | h3 | h3)
          · exact .inl h3
          · subst h3; exact .inr ⟨.inl rfl, h2⟩
          · exact .inr ⟨.inr h3, by have := hr x h3; omega⟩
        · rintro (h3 | ⟨h3, h4⟩)
          · exact .inl h3
          · exact .inr h3

theorem srt_putL : ∀ (l : List Row) (k : Int) (v : ByteArray), Srt l → Srt (putL l k v)
  | [], k, v, _ => by simp [putL, Srt]
  | r :: t, k, v, h => by
    have ht : Srt t := (List.pairwise_cons.1 h).2
    have hr := (List.pairwise_cons.1 h).1
    rw [putL]
    by_cases h1 : r.key < k
    · rw [if_pos h1]
      refine List.pairwise_cons.2 ⟨fun x hx => ?_, srt_putL t k v ht⟩
      rcases (mem_putL t k v x ht).1 hx with rfl | hx
      · exact h1
      · exact hr x hx.1
    · rw [if_neg h1]
      by_cases h2 : r.key = k
      · rw [if_pos h2]
        exact List.pairwise_cons.2 ⟨fun x hx => by have := hr x hx; show k < x.key; omega, ht⟩
      · rw [if_neg h2]
        refine List.pairwise_cons.2 ⟨fun x hx => ?_, h⟩
        show k < x.key
        rcases List.mem_cons.1 hx with rfl | hx
        · omega
        · have := hr x hx; omega

theorem mem_delL : ∀ (l : List Row) (k : Int) (x : Row), Srt l → (x ∈ delL l k ↔ x ∈ l ∧ ¬ x.key = k)
  | [], k, x, _ => by simp [delL]
  | r :: t, k, x, h => by
    have ht : Srt t := (List.pairwise_cons.1 h).2
    have hr := (List.pairwise_cons.1 h).1
    rw [delL]
    by_cases h1 : r.key = k
    · rw [if_pos h1, List.mem_cons]
      constructor
      · intro hx; exact ⟨.inr hx, by have := hr x hx; omega⟩
      · rintro ⟨rfl | hx, h2⟩
        · exact absurd h1 h2
        · exact hx
    · rw [if_neg h1, List.mem_cons, mem_delL t k x ht, List.mem_cons]
      constructor
      · rintro (rfl | ⟨hx, h2⟩)
        · exact ⟨.inl rfl, h1⟩
        · exact ⟨.inr hx, h2⟩
      · rintro ⟨rfl | hx, h2⟩
        · exact .inl rfl
        · exact .inr ⟨hx, h2⟩
theorem srt_delL : ∀ (l : List Row) (k : Int), Srt l → Srt (delL l k)
  | [], _, h => h
  | r :: t, k, h => by
    have ht : Srt t := (List.pairwise_cons.1 h).2
    have hr := (List.pairwise_cons.1 h).1
    rw [delL]
    split
    · exact ht
    · exact List.pairwise_cons.2 ⟨fun x hx => hr x ((mem_delL t k x ht).1 hx).1, srt_delL t k ht⟩

theorem getL_mem : ∀ (l : List Row) (x : Row), Srt l → x ∈ l → getL l x.key = some x.val
  | [], x, _, h => by simp at h
  | r :: t, x, hs, h => by
    have ht : Srt t := (List.pairwise_cons.1 hs).2
    have hr := (List.pairwise_cons.1 hs).1
    rw [getL]
    rcases List.mem_cons.1 h with rfl | hx
    · rw [if_pos rfl]
    · rw [if_neg (by have := hr x hx; omega)]
      exact getL_mem t x ht hx

/-- One table, and changes of it alone. -/
def oneL (L : List Row) (c : Chg) : List Row := if c.gone = true then delL L c.key else putL L c.key c.val
def allL (L : List Row) (l : List Chg) : List Row := l.foldl oneL L
theorem setAll_one : ∀ (l : List Chg) (L : List Row), (∀ c ∈ l, c.table = 0) → setAll [L] l = [allL L l]
  | [], L, _ => rfl
  | c :: t, L, h => by
    have hc := h c (List.mem_cons_self ..)
    show setAll (setPut [L] c) t = [allL (oneL L c) t]
    have e : setPut [L] c = [oneL L c] := by
      unfold setPut oneL
      rw [hc]
      rfl
    rw [e]
    exact setAll_one t _ (fun x hx => h x (List.mem_cons_of_mem _ hx))
theorem srt_oneL (L : List Row) (c : Chg) (h : Srt L) : Srt (oneL L c) := by
  unfold oneL
  split
  · exact srt_delL L _ h
  · exact srt_putL L _ _ h
theorem srt_allL : ∀ (l : List Chg) (L : List Row), Srt L → Srt (allL L l)
  | [], _, h => h
  | c :: t, L, h => srt_allL t (oneL L c) (srt_oneL L c h)
theorem mem_oneL (L : List Row) (c : Chg) (x : Row) (h : Srt L) (hx : ¬ x.key = c.key) : x ∈ oneL L c ↔ x ∈ L := by
  unfold oneL
  split
  · rw [mem_delL L _ x h]; exact ⟨fun h => h.1, fun h => ⟨h, hx⟩⟩
  · rw [mem_putL L _ _ x h]
    exact ⟨fun e => e.elim (fun e => absurd (by rw [e]) hx) (·.1), fun e => .inr ⟨e, hx⟩⟩
theorem mem_allL : ∀ (l : List Chg) (L : List Row) (x : Row), Srt L → (∀ c ∈ l, ¬ x.key = c.key) → (x ∈ allL L l ↔ x ∈ L)
  | [], _, _, _, _ => Iff.rfl
  | c :: t, L, x, h, hx => by
    show x ∈ allL (oneL L c) t ↔ _
    rw [mem_allL t _ x (srt_oneL L c h) (fun d hd => hx d (List.mem_cons_of_mem _ hd)), mem_oneL L c x h (hx c (List.mem_cons_self ..))]
theorem keys_oneL (L : List Row) (c : Chg) (h : Srt L) (hk : KeysIn L) (hc : 1 ≤ c.key ∧ c.key ≤ 1099511627776) : KeysIn (oneL L c) := by
  intro x hx
  unfold oneL at hx
  split at hx
  · exact hk x ((mem_delL L _ x h).1 hx).1
  · rcases (mem_putL L _ _ x h).1 hx with rfl | hx
    · exact hc
    · exact hk x hx.1
theorem keys_allL : ∀ (l : List Chg) (L : List Row), Srt L → KeysIn L → (∀ c ∈ l, 1 ≤ c.key ∧ c.key ≤ 1099511627776) → KeysIn (allL L l)
  | [], _, _, h, _ => h
  | c :: t, L, h, hk, hc => keys_allL t (oneL L c) (srt_oneL L c h) (keys_oneL L c h hk (hc c (List.mem_cons_self ..))) (fun d hd => hc d (List.mem_cons_of_mem _ hd))

theorem rising_srt : ∀ (l : List Row) (k : Int), Srt l → (∀ x ∈ l, k < x.key ∧ x.key ≤ 1099511627776) → rising k l = true
  | [], _, _, _ => rfl
  | r :: t, k, h, hk => by
    rw [rising, decide_eq_true (hk r (List.mem_cons_self ..)), Bool.true_and]
    exact rising_srt t r.key (List.pairwise_cons.1 h).2 (fun x hx => ⟨(List.pairwise_cons.1 h).1 x hx, (hk x (List.mem_cons_of_mem _ hx)).2⟩)
theorem afterL_mem {l : List Row} {k : Int} {n : Nat} {x : Row} (h : x ∈ afterL l k n) : x ∈ l ∧ k < x.key := by
  have h1 := List.mem_of_mem_take h
  rw [List.mem_filter] at h1
  exact ⟨h1.1, of_decide_eq_true h1.2⟩
theorem afterL_srt (l : List Row) (k : Int) (n : Nat) (h : Srt l) : Srt (afterL l k n) := (h.filter _).sublist (List.take_sublist _ _)
theorem afterL_len (l : List Row) (k : Int) (n : Nat) : (afterL l k n).length ≤ n := by unfold afterL; rw [List.length_take]; omega
theorem afterL_rising (l : List Row) (k : Int) (n : Nat) (h : Srt l) (hk : KeysIn l) : rising k (afterL l k n) = true :=
  rising_srt _ _ (afterL_srt l k n h) (fun x hx => ⟨(afterL_mem hx).2, (hk x (afterL_mem hx).1).2⟩)

theorem last_ge : ∀ (l : List Row) (k : Int) (x : Row), Srt l → x ∈ l → x.key ≤ lastKey l k
  | [], _, _, _, hx => by simp at hx
  | [r], k, x, _, hx => by
    obtain rfl : x = r := by simpa using hx
    rw [lastKey_cons, lastKey_nil]
    exact Int.le_refl _
  | r :: y :: s, k, x, h, hx => by
    have ht : Srt (y :: s) := (List.pairwise_cons.1 h).2
    rw [lastKey_cons]
    rcases List.mem_cons.1 hx with rfl | hx
    · have h1 := (List.pairwise_cons.1 h).1 y (List.mem_cons_self ..)
      have h2 := last_ge (y :: s) x.key y ht (List.mem_cons_self ..)
      omega
    · exact last_ge (y :: s) r.key x ht hx
theorem last_mem : ∀ {l : List Row} {k : Int}, l ≠ [] → ∃ x ∈ l, lastKey l k = x.key
  | [], _, h => absurd rfl h
  | [r], k, _ => ⟨r, by simp, by rw [lastKey_cons, lastKey_nil]⟩
  | r :: y :: s, k, _ => by
    obtain ⟨x, hx, he⟩ := last_mem (l := y :: s) (k := r.key) (by simp)
    exact ⟨x, List.mem_cons_of_mem _ hx, by rw [lastKey_cons]; exact he⟩

/-- What the chunk r of the table L1 leaves. -/
def leftL (b c : List Chg) (r : List Row) : List Row := seeL 0 c (seeL 0 b r)
theorem mem_leftL (b c : List Chg) (hb : ∀ x ∈ b, x.table = 0) (hc : ∀ x ∈ c, x.table = 0) (r : List Row) (x : Row) : x ∈ leftL b c r ↔ x ∈ r ∧ (∀ y ∈ b, ¬ x.key = y.key) ∧ (∀ y ∈ c, ¬ x.key = y.key) := by
  have hh : ∀ l : List Chg, (∀ x ∈ l, x.table = 0) → ((!hitB 0 l x) = true ↔ ∀ y ∈ l, ¬ x.key = y.key) := by
    intro l hl
    unfold hitB
    rw [Bool.not_eq_true', Bool.eq_false_iff]
    constructor
    · intro h y hy e
      exact h (List.any_eq_true.2 ⟨y, hy, decide_eq_true ⟨hl y hy, e.symm⟩⟩)
    · intro h e
      obtain ⟨y, hy, he⟩ := List.any_eq_true.1 e
      exact h y hy (of_decide_eq_true he).2.symm
  unfold leftL
  rw [seeL_filter, seeL_filter, List.mem_filter, List.mem_filter, hh b hb, hh c hc, and_assoc]

theorem told_right (L1 : List Row) (b c : List Chg) (hb : ∀ x ∈ b, x.table = 0) (hc : ∀ x ∈ c, x.table = 0) (k : Int) (n : Nat) (hs : Srt L1) (x : Row) (hx : x ∈ leftL b c (afterL L1 k n)) : getL (allL L1 c) x.key = some x.val := by
  obtain ⟨h1, h2, h3⟩ := (mem_leftL b c hb hc _ x).1 hx
  exact getL_mem _ x (srt_allL c L1 hs) ((mem_allL c L1 x hs h3).2 (afterL_mem h1).1)

theorem told_all (L1 : List Row) (b c : List Chg) (hb : ∀ x ∈ b, x.table = 0) (hc : ∀ x ∈ c, x.table = 0) (k : Int) (n : Nat) (hn : 0 < n) (hs : Srt L1) (y : Row) (hy : y ∈ allL L1 c) (h1 : k < y.key)
    (h2 : y.key ≤ lastKey (afterL L1 k n) k ∨ (afterL L1 k n).length < n) (h3 : ∀ x ∈ leftL b c (afterL L1 k n), ¬ x.key = y.key) (h4 : ∀ x ∈ b ++ c, ¬ x.key = y.key) : False := by
  have hb4 : ∀ x ∈ b, ¬ y.key = x.key := fun x hx e => h4 x (List.mem_append_left _ hx) e.symm
  have hc4 : ∀ x ∈ c, ¬ y.key = x.key := fun x hx e => h4 x (List.mem_append_right _ hx) e.symm
  have hy1 := (mem_allL c L1 y hs hc4).1 hy
  have hyF : y ∈ L1.filter (fun r => decide (k < r.key)) := List.mem_filter.2 ⟨hy1, decide_eq_true h1⟩
  have hno : ¬ y ∈ afterL L1 k n := fun hr => h3 y ((mem_leftL b c hb hc _ y).2 ⟨hr, hb4, hc4⟩) rfl
  rcases h2 with h2 | h2
  · have hsF : Srt (L1.filter (fun r => decide (k < r.key))) := hs.filter _
    have hne : afterL L1 k n ≠ [] := by
      intro e
      unfold afterL at e
      cases hF : L1.filter (fun r => decide (k < r.key)) with
      | nil => rw [hF] at hyF; simp at hyF
      | cons z s =>
        rw [hF] at e
        match n, hn with
        | m + 1, _ => simp at e
    obtain ⟨z, hz, he⟩ := last_mem (k := k) hne
    have hyd : y ∈ (L1.filter (fun r => decide (k < r.key))).drop n := by
      have h5 : y ∈ (L1.filter (fun r => decide (k < r.key))).take n ++ (L1.filter (fun r => decide (k < r.key))).drop n := by rw [List.take_append_drop]; exact hyF
      rcases List.mem_append.1 h5 with h5 | h5
      · exact absurd h5 hno
      · exact h5
    have hlt : z.key < y.key := by
      have h6 : Srt ((L1.filter (fun r => decide (k < r.key))).take n ++ (L1.filter (fun r => decide (k < r.key))).drop n) := by rw [List.take_append_drop]; exact hsF
      exact (List.pairwise_append.1 h6).2.2 z hz y hyd
    omega
  · refine hno ?_
    unfold afterL at h2 ⊢
    rw [List.length_take] at h2
    rw [List.take_of_length_le (by omega)]
    exact hyF
end Go.Proofs.Ytojjeogpggielaa
