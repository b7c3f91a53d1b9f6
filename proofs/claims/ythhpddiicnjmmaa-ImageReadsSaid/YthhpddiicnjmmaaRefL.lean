/- Plain laws of reading and writing fields, for whatever is laid in fields. Taken in part out of the text TxnP. -/
import Derived.Test.YthhpddiicnjmmaaRefQ
import Derived.Test.YthhpddiicnjmmaaFldP
set_option linter.unusedVariables false
set_option linter.unusedSimpArgs false
namespace Go.Proofs.Ythhpddiicnjmmaa
open Go.RowKit

def okL (l : List Fld) : Prop := ∀ f ∈ l, okField f = true

theorem okL_num {f : Fld} (h : okField f = true) (hk : f.kind = 1) : f = numF f.n := by
  obtain ⟨k, n, s⟩ := f
  dsimp only at hk
  subst hk
  unfold okField at h
  simp at h
  subst h
  rfl

theorem okL_txt {f : Fld} (h : okField f = true) (hk : f.kind = 2) : f = txtF f.s ∧ f.s.size ≤ 4096 := by
  obtain ⟨k, n, s⟩ := f
  dsimp only at hk
  subst hk
  unfold okField at h
  simp at h
  obtain ⟨rfl, h⟩ := h
  exact ⟨rfl, h⟩

theorem intP_num (n : Int) (r : List Fld) : intP (numF n :: r) false = (n, r, false) := by
  unfold intP nextP; dsimp only [numF]; rw [if_pos rfl]

theorem textP_txt (s : ByteArray) (r : List Fld) : textP (txtF s :: r) false = (s, r, false) := by
  unfold textP nextP; dsimp only [txtF]; rw [if_pos rfl]

theorem smallP_num (n : Int) (r : List Fld) (m : Int) (h : 0 ≤ n) (h' : n ≤ m) : smallP (numF n :: r) false m = (n, r, false) := by
  unfold smallP; rw [intP_num, if_neg (by dsimp only; omega)]

theorem bitP_num (b : Bool) (r : List Fld) : bitP (numF (bitI b) :: r) false = (b, r, false) := by
  unfold bitP; rw [smallP_num _ _ _ (by cases b <;> (unfold bitI; simp)) (by cases b <;> (unfold bitI; simp))]; cases b <;> rfl

theorem rintP_num (n : Int) (r : List Fld) (m : Int) (h : 0 ≤ n) (h' : n ≤ m) : rintP (numF n :: r) false m = (n, r, false) := by
  unfold rintP; dsimp only [numF]; rw [if_pos ⟨rfl, h, h'⟩]

theorem rtextP_txt (s : ByteArray) (r : List Fld) : rtextP (txtF s :: r) false = (s, r, false) := by
  unfold rtextP; dsimp only [txtF]; rw [if_pos rfl]

theorem rflagP_num (b : Bool) (r : List Fld) : rflagP (numF (bitI b) :: r) false = (b, r, false) := by
  unfold rflagP; rw [rintP_num _ _ _ (by cases b <;> (unfold bitI; simp)) (by cases b <;> (unfold bitI; simp))]; cases b <;> rfl

theorem nextP_inv {l r : List Fld} {bad : Bool} {k : Int} {f : Fld} (h : nextP l bad k = (f, r, false)) : bad = false ∧ l = f :: r ∧ f.kind = k := by
  cases bad
  · cases l with
    | nil => simp [nextP] at h
    | cons g t =>
      unfold nextP at h
      dsimp only at h
      split at h
      · rename_i hk
        simp at h
        obtain ⟨rfl, rfl⟩ := h
        exact ⟨rfl, rfl, hk⟩
      · simp at h
  · simp [nextP] at h

theorem intP_inv {l r : List Fld} {bad : Bool} {x : Int} (ho : okL l) (h : intP l bad = (x, r, false)) : bad = false ∧ l = numF x :: r ∧ okL r := by
  unfold intP at h
  obtain ⟨⟨f, r', b'⟩, hn⟩ : ∃ a, nextP l bad 1 = a := ⟨_, rfl⟩
  rw [hn] at h
  simp at h
  obtain ⟨rfl, rfl, rfl⟩ := h
  obtain ⟨hb, rfl, hk⟩ := nextP_inv hn
  have := okL_num (ho f (by simp)) hk
  exact ⟨hb, by rw [← this], fun g hg => ho g (by simp [hg])⟩

theorem textP_inv {l r : List Fld} {bad : Bool} {x : ByteArray} (ho : okL l) (h : textP l bad = (x, r, false)) : bad = false ∧ l = txtF x :: r ∧ okL r := by
  unfold textP at h
  obtain ⟨⟨f, r', b'⟩, hn⟩ : ∃ a, nextP l bad 2 = a := ⟨_, rfl⟩
  rw [hn] at h
  simp at h
  obtain ⟨rfl, rfl, rfl⟩ := h
  obtain ⟨hb, rfl, hk⟩ := nextP_inv hn
  have := (okL_txt (ho f (by simp)) hk).1
  exact ⟨hb, by rw [← this], fun g hg => ho g (by simp [hg])⟩

theorem smallP_inv {l r : List Fld} {bad : Bool} {x m : Int} (ho : okL l) (h : smallP l bad m = (x, r, false)) : bad = false ∧ l = numF x :: r ∧ okL r ∧ 0 ≤ x ∧ x ≤ m := by
  unfold smallP at h
  split at h
  · simp at h
  · rename_i hn
    rw [h] at hn
    dsimp only at hn
    obtain ⟨a, b, c⟩ := intP_inv ho h
    exact ⟨a, b, c, by omega, by omega⟩

theorem bitP_inv {l r : List Fld} {bad : Bool} {x : Bool} (ho : okL l) (h : bitP l bad = (x, r, false)) : bad = false ∧ l = numF (bitI x) :: r ∧ okL r := by
  unfold bitP at h
  obtain ⟨⟨n, r', b'⟩, hn⟩ : ∃ a, smallP l bad 1 = a := ⟨_, rfl⟩
  rw [hn] at h
  simp at h
  obtain ⟨rfl, rfl, rfl⟩ := h
  obtain ⟨hb, rfl, ho', h0, h1⟩ := smallP_inv ho hn
  refine ⟨hb, ?_, ho'⟩
  rcases (show n = 0 ∨ n = 1 by omega) with rfl | rfl <;> rfl

theorem rintP_inv {l r : List Fld} {bad : Bool} {x m : Int} (ho : okL l) (h : rintP l bad m = (x, r, false)) : bad = false ∧ l = numF x :: r ∧ okL r ∧ 0 ≤ x ∧ x ≤ m := by
  cases bad
  · cases l with
    | nil => simp [rintP] at h
    | cons g t =>
      unfold rintP at h
      dsimp only at h
      split at h
      · rename_i hk
        simp at h
        obtain ⟨rfl, rfl⟩ := h
        have := okL_num (ho g (by simp)) hk.1
        exact ⟨rfl, by rw [← this], fun g hg => ho g (by simp [hg]), hk.2⟩
      · simp at h
  · simp [rintP] at h

theorem rtextP_inv {l r : List Fld} {bad : Bool} {x : ByteArray} (ho : okL l) (h : rtextP l bad = (x, r, false)) : bad = false ∧ l = txtF x :: r ∧ okL r := by
  cases bad
  · cases l with
    | nil => simp [rtextP] at h
    | cons g t =>
      unfold rtextP at h
      dsimp only at h
      split at h
      · rename_i hk
        simp at h
        obtain ⟨rfl, rfl⟩ := h
        have := (okL_txt (ho g (by simp)) hk).1
        exact ⟨rfl, by rw [← this], fun g hg => ho g (by simp [hg])⟩
      · simp at h
  · simp [rtextP] at h

theorem rflagP_inv {l r : List Fld} {bad : Bool} {x : Bool} (ho : okL l) (h : rflagP l bad = (x, r, false)) : bad = false ∧ l = numF (bitI x) :: r ∧ okL r := by
  unfold rflagP at h
  obtain ⟨⟨n, r', b'⟩, hn⟩ : ∃ a, rintP l bad 1 = a := ⟨_, rfl⟩
  rw [hn] at h
  simp at h
  obtain ⟨rfl, rfl, rfl⟩ := h
  obtain ⟨hb, rfl, ho', h0, h1⟩ := rintP_inv ho hn
  refine ⟨hb, ?_, ho'⟩
  rcases (show n = 0 ∨ n = 1 by omega) with rfl | rfl <;> rfl

theorem nextP_ok {l : List Fld} (h : okL l) (bad : Bool) (k : Int) : okL (nextP l bad k).2.1 := by
  cases bad
  · cases l with
    | nil => exact h
    | cons f r =>
      unfold nextP
      dsimp only
      split
      · exact fun g hg => h g (by simp [hg])
      · exact h
  · exact h

theorem intP_ok {l : List Fld} (h : okL l) (bad : Bool) : okL (intP l bad).2.1 := nextP_ok h bad 1

theorem textP_ok {l : List Fld} (h : okL l) (bad : Bool) : okL (textP l bad).2.1 := nextP_ok h bad 2

theorem smallP_ok {l : List Fld} (h : okL l) (bad : Bool) (m : Int) : okL (smallP l bad m).2.1 := by
  unfold smallP
  split
  · exact intP_ok h bad
  · exact intP_ok h bad

theorem bitP_ok {l : List Fld} (h : okL l) (bad : Bool) : okL (bitP l bad).2.1 := smallP_ok h bad 1

theorem rintP_ok {l : List Fld} (h : okL l) (bad : Bool) (m : Int) : okL (rintP l bad m).2.1 := by
  cases bad
  · cases l with
    | nil => exact h
    | cons f r =>
      unfold rintP
      dsimp only
      split
      · exact fun g hg => h g (by simp [hg])
      · exact h
  · exact h

theorem rtextP_ok {l : List Fld} (h : okL l) (bad : Bool) : okL (rtextP l bad).2.1 := by
  cases bad
  · cases l with
    | nil => exact h
    | cons f r =>
      unfold rtextP
      dsimp only
      split
      · exact fun g hg => h g (by simp [hg])
      · exact h
  · exact h

theorem rflagP_ok {l : List Fld} (h : okL l) (bad : Bool) : okL (rflagP l bad).2.1 := rintP_ok h bad 1

theorem rrChg_ok {l : List Fld} (h : okL l) (bad : Bool) : okL (rrChg l bad).2.1 := rtextP_ok (rflagP_ok (rintP_ok (rintP_ok h _ _) _ _) _) _

theorem mayChg_parts {c : Chg} {t : Int} (h : mayChg c t = true) : 0 ≤ c.table ∧ c.table < t ∧ 1 ≤ c.key ∧ c.key ≤ 1099511627776 ∧ c.val.size ≤ 32 ∧ (c.gone = false ∨ c.val.size = 0) := of_decide_eq_true h

theorem rrChg_chg {c : Chg} (h : mayChg c 8 = true) (r : List Fld) : rrChg (chgF c ++ r) false = (c, r, false) := by
  have hp := mayChg_parts h
  unfold rrChg chgF
  simp only [List.cons_append, List.nil_append]
  rw [rintP_num _ _ _ hp.1 (by omega)]
  dsimp only
  rw [rintP_num _ _ _ (by omega) (by omega)]
  dsimp only
  rw [rflagP_num]
  dsimp only
  rw [rtextP_txt]

theorem rrChg_inv {l r : List Fld} {bad : Bool} {c : Chg} (ho : okL l) (h : rrChg l bad = (c, r, false)) : bad = false ∧ l = chgF c ++ r := by
  unfold rrChg at h
  obtain ⟨⟨x1, l1, b1⟩, h1⟩ : ∃ a, rintP l bad 7 = a := ⟨_, rfl⟩
  have o1 := rintP_ok ho bad 7
  rw [h1] at h o1; dsimp only at h o1
  obtain ⟨⟨x2, l2, b2⟩, h2⟩ : ∃ a, rintP l1 b1 1099511627776 = a := ⟨_, rfl⟩
  have o2 := rintP_ok o1 b1 1099511627776
  rw [h2] at h o2; dsimp only at h o2
  obtain ⟨⟨x3, l3, b3⟩, h3⟩ : ∃ a, rflagP l2 b2 = a := ⟨_, rfl⟩
  have o3 := rflagP_ok o2 b2
  rw [h3] at h o3; dsimp only at h o3
  obtain ⟨⟨x4, l4, b4⟩, h4⟩ : ∃ a, rtextP l3 b3 = a := ⟨_, rfl⟩
  rw [h4] at h; dsimp only at h
  simp only [Prod.mk.injEq] at h
  obtain ⟨rfl, rfl, rfl⟩ := h
  obtain ⟨rfl, rfl, _⟩ := rtextP_inv o3 h4
  obtain ⟨rfl, rfl, _⟩ := rflagP_inv o2 h3
  obtain ⟨rfl, rfl, _⟩ := rintP_inv o1 h2
  obtain ⟨rfl, rfl, _⟩ := rintP_inv ho h1
  exact ⟨rfl, rfl⟩

theorem dec_casesT (b : List UInt8) : (∃ e, e ≠ 0 ∧ decV b = [] ∧ decE b = e) ∨ (∃ l, decO b = .ok l ∧ decV b = l ∧ decE b = 0) := by
  unfold decV decE
  cases h : decO b with
  | ok l => exact .inr ⟨l, rfl, rfl, rfl⟩
  | error e =>
    left
    refine ⟨e, ?_, rfl, rfl⟩
    have hF : ∀ (b : List UInt8) (e : Int), decF b = .error e → e ≠ 0 := by
      intro b e h
      have := fieldF_dec b
      rw [h] at this
      exact this.1
    have hN : ∀ (k : Nat) (b : List UInt8) (acc : List Fld) (e : Int), decN k b acc = .error e → e ≠ 0 := by
      intro k
      induction k with
      | zero => intro b acc e h; rw [decN] at h; split at h <;> cases h; decide
      | succ k ih =>
        intro b acc e h
        rw [decN] at h
        split at h
        · rename_i e' he; cases h; exact hF _ _ he
        · exact ih _ _ _ h
    unfold decO at h
    split at h
    · cases h; decide
    · split at h
      · cases h; decide
      · exact hN _ _ _ _ h

theorem dec_not0 (b : List UInt8) : decO b ≠ .error 0 := by
  intro h
  rcases dec_casesT b with ⟨e, he, _, h2⟩ | ⟨l, hl, _, _⟩
  · unfold decE at h2
    rw [h] at h2
    exact he h2.symm
  · rw [h] at hl; cases hl

theorem dec_okT {b : List UInt8} (h : decE b = 0) : decO b = .ok (decV b) := by
  unfold decE at h
  unfold decV
  cases hd : decO b with
  | ok l => rfl
  | error e =>
    rw [hd] at h
    dsimp only at h
    subst h
    exact absurd hd (dec_not0 b)

theorem okT {s : ByteArray} (h : s.size ≤ 4096) : okField (txtF s) = true := by
  unfold okField txtF
  rw [decide_eq_true h]
  rfl

/-! ### Several of one kind, one behind the other -/
/-- Once one is wrong, nothing more is read. -/
def rdMany {α : Type} (rd : List Fld → Bool → α × List Fld × Bool) : Nat → List Fld → Bool → List α → List α × List Fld × Bool
  | 0, l, bad, acc => (acc, l, bad)
  | k + 1, l, bad, acc => if bad = true then (acc, l, bad) else rdMany rd k (rd l bad).2.1 (rd l bad).2.2 (acc ++ [(rd l bad).1])
section
variable {α : Type} {rd : List Fld → Bool → α × List Fld × Bool}
theorem rdMany_stop {k : Nat} {l : List Fld} {bad : Bool} {acc : List α} (h : k = 0 ∨ bad = true) : rdMany rd k l bad acc = (acc, l, bad) := by
  rcases h with rfl | rfl
  · rfl
  · cases k <;> simp [rdMany]
theorem rdMany_next {k : Nat} {l : List Fld} {acc : List α} : rdMany rd (k + 1) l false acc = rdMany rd k (rd l false).2.1 (rd l false).2.2 (acc ++ [(rd l false).1]) := by
  rw [rdMany, if_neg (by simp)]
theorem rdMany_ok (hok : ∀ l bad, okL l → okL (rd l bad).2.1) : ∀ (k : Nat) (l : List Fld) (bad : Bool) (acc : List α), okL l → okL (rdMany rd k l bad acc).2.1
  | 0, _, _, _, h => h
  | k + 1, l, bad, acc, h => by
    rw [rdMany]
    split
    · exact h
    · exact rdMany_ok hok k _ _ _ (hok l bad h)
theorem rdMany_wfL (hok : ∀ l bad, wfL l → wfL (rd l bad).2.1) : ∀ (k : Nat) (l : List Fld) (bad : Bool) (acc : List α), wfL l → wfL (rdMany rd k l bad acc).2.1
  | 0, _, _, _, h => h
  | k + 1, l, bad, acc, h => by
    rw [rdMany]
    split
    · exact h
    · exact rdMany_wfL hok k _ _ _ (hok l bad h)
theorem rdMany_len : ∀ (k : Nat) (l : List Fld) (bad : Bool) (acc : List α), (rdMany rd k l bad acc).1.length ≤ acc.length + k
  | 0, _, _, _ => by rw [rdMany]; exact Nat.le_refl _
  | k + 1, l, bad, acc => by
    rw [rdMany]
    split
    · show acc.length ≤ _; omega
    · have := rdMany_len k (rd l bad).2.1 (rd l bad).2.2 (acc ++ [(rd l bad).1])
      rw [List.length_append, List.length_cons, List.length_nil] at this
      omega
theorem rdMany_fwd {enc : α → List Fld} {ok : α → Prop} (h : ∀ x r, ok x → rd (enc x ++ r) false = (x, r, false)) : ∀ (xs acc : List α) (r : List Fld), (∀ x ∈ xs, ok x) → rdMany rd xs.length (xs.flatMap enc ++ r) false acc = (acc ++ xs, r, false)
  | [], acc, r, _ => by simp [rdMany]
  | x :: t, acc, r, hx => by
    rw [List.length_cons, rdMany_next, List.flatMap_cons, List.append_assoc, h x _ (hx x (by simp))]
    have := rdMany_fwd h t (acc ++ [x]) r (fun y hy => hx y (by simp [hy]))
    rw [this]
    simp
theorem rdMany_inv {enc : α → List Fld} (h : ∀ l bad x r, okL l → rd l bad = (x, r, false) → bad = false ∧ l = enc x ++ r) (hok : ∀ l bad, okL l → okL (rd l bad).2.1) : ∀ (k : Nat) (l : List Fld) (bad : Bool) (acc xs : List α) (r : List Fld), okL l → rdMany rd k l bad acc = (xs, r, false) → bad = false ∧ ∃ m, xs = acc ++ m ∧ m.length = k ∧ l = m.flatMap enc ++ r
  | 0, l, bad, acc, xs, r, _, he => by
    rw [rdMany] at he
    simp only [Prod.mk.injEq] at he
    obtain ⟨rfl, rfl, rfl⟩ := he
    exact ⟨rfl, [], by simp, rfl, by simp⟩
  | k + 1, l, bad, acc, xs, r, ho, he => by
    cases bad
    · rw [rdMany_next] at he
      obtain ⟨⟨x, l2, b2⟩, h2⟩ : ∃ a, rd l false = a := ⟨_, rfl⟩
      have o2 := hok l false ho
      rw [h2] at he o2
      dsimp only at he o2
      obtain ⟨rfl, m, rfl, hm, rfl⟩ := rdMany_inv h hok k l2 b2 _ _ _ o2 he
      obtain ⟨_, rfl⟩ := h _ _ _ _ ho h2
      exact ⟨rfl, x :: m, by simp, by simp [hm], by simp⟩
    · rw [rdMany, if_pos rfl] at he
      simp at he
end

/-! ### Whatever is decoded of fields -/
section
variable {α : Type}
def decGV (rd : List Fld → α × List Fld × Bool) (may : α → Bool) (z : α) (b : List UInt8) : α := if decE b = 0 ∧ (rd (decV b)).2.2 = false ∧ (rd (decV b)).2.1 = [] ∧ may (rd (decV b)).1 = true then (rd (decV b)).1 else z
def decGE (rd : List Fld → α × List Fld × Bool) (may : α → Bool) (b : List UInt8) : Int := if decE b = 0 then (if (rd (decV b)).2.2 = false ∧ (rd (decV b)).2.1 = [] ∧ may (rd (decV b)).1 = true then 0 else 3) else decE b
variable {rd rr : List Fld → α × List Fld × Bool} {may : α → Bool} {z : α} {b : List UInt8}
theorem decG_ok {t : α} (he : decE b = 0) (h : rd (decV b) = (t, [], false)) (hm : may t = true) : decGV rd may z b = t ∧ decGE rd may b = 0 := by
  unfold decGV decGE
  rw [h]
  dsimp only
  rw [if_pos ⟨he, rfl, rfl, hm⟩, if_pos he, if_pos ⟨rfl, rfl, hm⟩]
  exact ⟨rfl, rfl⟩
theorem decG_no {t : α} {l : List Fld} {bad : Bool} (he : decE b = 0) (h : rd (decV b) = (t, l, bad)) (hm : ¬ (bad = false ∧ l = [] ∧ may t = true)) : decGV rd may z b = z ∧ decGE rd may b = 3 := by
  unfold decGV decGE
  rw [h]
  dsimp only
  rw [if_neg (fun h => hm h.2), if_pos he, if_neg hm]
  exact ⟨rfl, rfl⟩
theorem decG_err (he : ¬ decE b = 0) : decGV rd may z b = z ∧ decGE rd may b = decE b := by
  unfold decGV decGE
  rw [if_neg (fun h => he h.1), if_neg he]
  exact ⟨rfl, rfl⟩
theorem okL_dec (he : decE b = 0) : okL (decV b) := by
  obtain ⟨h1, h2, h3⟩ := encO_dec (dec_okT he)
  intro f hf
  unfold encO at h1
  split at h1
  · rename_i h
    exact List.all_eq_true.1 h.2 f hf
  · cases h1
theorem decG_cases {enc : α → List Fld} (inv1 : ∀ l t, okL l → rd l = (t, [], false) → l = enc t) (inv2 : ∀ l t, okL l → rr l = (t, [], false) → l = enc t) (fwd1 : ∀ t, may t = true → rd (enc t) = (t, [], false)) (fwd2 : ∀ t, may t = true → rr (enc t) = (t, [], false)) (b : List UInt8) :
    (decE b = 0 ∧ ∃ t, decV b = enc t ∧ may t = true ∧ decGV rd may z b = t ∧ decGE rd may b = 0 ∧ decGV rr may z b = t ∧ decGE rr may b = 0) ∨ (decGV rd may z b = z ∧ decGV rr may z b = z ∧ decGE rd may b ≠ 0 ∧ decGE rr may b = decGE rd may b) := by
  by_cases he : decE b = 0
  · have ho := okL_dec he
    obtain ⟨⟨t, r, bd⟩, hr⟩ : ∃ a, rd (decV b) = a := ⟨_, rfl⟩
    obtain ⟨⟨t2, r2, bd2⟩, hr2⟩ : ∃ a, rr (decV b) = a := ⟨_, rfl⟩
    by_cases hg : bd = false ∧ r = [] ∧ may t = true
    · obtain ⟨rfl, rfl, hm⟩ := hg
      have e := inv1 _ _ ho hr
      have h2 : rr (decV b) = (t, [], false) := by rw [e]; exact fwd2 t hm
      have k1 := decG_ok (z := z) he hr hm
      have k2 := decG_ok (z := z) he h2 hm
      exact .inl ⟨he, t, e, hm, k1.1, k1.2, k2.1, k2.2⟩
    · have hg2 : ¬ (bd2 = false ∧ r2 = [] ∧ may t2 = true) := by
        rintro ⟨rfl, rfl, hm⟩
        have e := inv2 _ _ ho hr2
        have h1 : rd (decV b) = (t2, [], false) := by rw [e]; exact fwd1 t2 hm
        rw [hr] at h1
        simp only [Prod.mk.injEq] at h1
        obtain ⟨rfl, rfl, rfl⟩ := h1
        exact hg ⟨rfl, rfl, hm⟩
      have k1 := decG_no (z := z) he hr hg
      have k2 := decG_no (z := z) he hr2 hg2
      exact .inr ⟨k1.1, k2.1, by rw [k1.2]; decide, by rw [k1.2, k2.2]⟩
  · have k1 := decG_err (rd := rd) (may := may) (z := z) he
    have k2 := decG_err (rd := rr) (may := may) (z := z) he
    exact .inr ⟨k1.1, k2.1, by rw [k1.2]; exact he, by rw [k1.2, k2.2]⟩
def encGE (enc : α → List Fld) (may : α → Bool) (t : α) : Int := if may t = true then encE (enc t) else 1
def encGV (enc : α → List Fld) (may : α → Bool) (t : α) : List UInt8 := if may t = true then encV (enc t) else []
/-- What is decoded is encoded as the same bytes. -/
theorem encG_dec {enc : α → List Fld} {t : α} (he : decE b = 0) (hf : decV b = enc t) (hm : may t = true) : encGE enc may t = 0 ∧ encGV enc may t = b := by
  unfold encGE encGV
  rw [if_pos hm, if_pos hm, ← hf]
  obtain ⟨e1, _, _⟩ := encO_dec (dec_okT he)
  unfold encE encV
  rw [e1]
  exact ⟨rfl, rfl⟩
/-- What is encoded is decoded; cut off it is too short; with more behind it is none. -/
theorem decG_enc {enc : α → List Fld} {t : α} (h : may t = true) (ha : (enc t).all okField = true) (hl : (enc t).length ≤ 32767) (hw : ∀ f ∈ enc t, f.wf) (hr : rd (enc t) = (t, [], false)) :
    encGE enc may t = 0 ∧ encGV enc may t = encB (enc t) ∧ decGE rd may (encGV enc may t) = 0 ∧ decGV rd may z (encGV enc may t) = t ∧ (∀ k, k < (encGV enc may t).length → decGE rd may ((encGV enc may t).take k) = 2) ∧ (∀ m, decGE rd may (encGV enc may t ++ [m]) = 3) := by
  have hE : encGE enc may t = 0 ∧ encGV enc may t = encB (enc t) := by
    unfold encGE encGV encE encV
    rw [if_pos h, if_pos h, encO_eq hl ha]
    exact ⟨rfl, rfl⟩
  rw [hE.2]
  have hd : decO (encB (enc t)) = .ok (enc t) := by
    have := decO_enc hl ha hw []
    rw [List.append_nil, if_pos rfl] at this
    exact this
  have hv : decV (encB (enc t)) = enc t ∧ decE (encB (enc t)) = 0 := by unfold decV decE; rw [hd]; exact ⟨rfl, rfl⟩
  have k1 := decG_ok (rd := rd) (may := may) (z := z) (b := encB (enc t)) hv.2 (by rw [hv.1]; exact hr) h
  refine ⟨hE.1, rfl, k1.2, k1.1, ?_, ?_⟩
  · intro k hk
    have := decO_cut hl ha hw hk
    have he : decE ((encB (enc t)).take k) = 2 := by unfold decE; rw [this]
    rw [(decG_err (rd := rd) (may := may) (z := z) (by rw [he]; decide)).2, he]
  · intro m
    have := decO_enc hl ha hw [m]
    rw [if_neg (by simp)] at this
    have he : decE (encB (enc t) ++ [m]) = 3 := by unfold decE; rw [this]
    rw [(decG_err (rd := rd) (may := may) (z := z) (by rw [he]; decide)).2, he]
end
end Go.Proofs.Ythhpddiicnjmmaa
