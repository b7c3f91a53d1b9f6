/- Plain facts: what a transaction's fields are read as, by either reader. No walk. -/
import Derived.Test.YtojjeogpggielaaTxn12
import Derived.Test.YtojjeogpggielaaFldP
set_option linter.unusedVariables false
set_option linter.unusedSimpArgs false
namespace Go.Proofs.Ytojjeogpggielaa
open Go.RowKit

def okL (l : List Fld) : Prop := ∀ f ∈ l, okField f = true

theorem okL_num {f : Fld} (h : okField f = true) (hk : f.kind = 1) : f = numF f.n := by
  obtain ⟨k, n, s⟩ := f
  dsimp only at hk
  subst hk
  unfold okField at h
  simp at h
  subst h
  rfl
theorem okL_txt {f : Fld} (h : okField f = true) (hk : f.kind = 2) : f = txtF f.s ∧ f.s.size ≤ 4096 := by
  obtain ⟨k, n, s⟩ := f
  dsimp only at hk
  subst hk
  unfold okField at h
  simp at h
  obtain ⟨rfl, h⟩ := h
  exact ⟨rfl, h⟩

/-! ### One field: forth -/
theorem intP_num (n : Int) (r : List Fld) : intP (numF n :: r) false = (n, r, false) := by
  unfold intP nextP; dsimp only [numF]; rw [if_pos rfl]
theorem textP_txt (s : ByteArray) (r : List Fld) : textP (txtF s :: r) false = (s, r, false) := by
  unfold textP nextP; dsimp only [txtF]; rw [if_pos rfl]
theorem smallP_num (n : Int) (r : List Fld) (m : Int) (h : 0 ≤ n) (h' : n ≤ m) : smallP (numF n :: r) false m = (n, r, false) := by
  unfold smallP; rw [intP_num, if_neg (by dsimp only; omega)]
theorem bitP_num (b : Bool) (r : List Fld) : bitP (numF (bitI b) :: r) false = (b, r, false) := by
  unfold bitP; rw [smallP_num _ _ _ (by cases b <;> (unfold bitI; simp)) (by cases b <;> (unfold bitI; simp))]; cases b <;> rfl
theorem rintP_num (n : Int) (r : List Fld) (m : Int) (h : 0 ≤ n) (h' : n ≤ m) : rintP (numF n :: r) false m = (n, r, false) := by
  unfold rintP; dsimp only [numF]; rw [if_pos ⟨rfl, h, h'⟩]
theorem rtextP_txt (s : ByteArray) (r : List Fld) : rtextP (txtF s :: r) false = (s, r, false) := by
  unfold rtextP; dsimp only [txtF]; rw [if_pos rfl]
theorem rflagP_num (b : Bool) (r : List Fld) : rflagP (numF (bitI b) :: r) false = (b, r, false) := by
  unfold rflagP; rw [rintP_num _ _ _ (by cases b <;> (unfold bitI; simp)) (by cases b <;> (unfold bitI; simp))]; cases b <;> rfl

/-! ### One field: back -/
theorem nextP_inv {l r : List Fld} {bad : Bool} {k : Int} {f : Fld} (h : nextP l bad k = (f, r, false)) : bad = false ∧ l = f :: r ∧ f.kind = k := by
  cases bad
  · cases l with
    | nil => simp [nextP] at h
    | cons g t =>
      unfold nextP at h
      dsimp only at h
      split at h
      · rename_i hk
        simp at h
        obtain ⟨rfl, rfl⟩ := h
        exact ⟨rfl, rfl, hk⟩
      · simp at h
  · simp [nextP] at h
theorem intP_inv {l r : List Fld} {bad : Bool} {x : Int} (ho : okL l) (h : intP l bad = (x, r, false)) : bad = false ∧ l = numF x :: r ∧ okL r := by
  unfold intP at h
  obtain ⟨⟨f, r', b'⟩, hn⟩ : ∃ a, nextP l bad 1 = a := ⟨_, rfl⟩
  rw [hn] at h
  simp at h
  obtain ⟨rfl, rfl, rfl⟩ := h
  obtain ⟨hb, rfl, hk⟩ := nextP_inv hn
  have := okL_num (ho f (by simp)) hk
  exact ⟨hb, by rw [← this], fun g hg => ho g (by simp [hg])⟩
theorem textP_inv {l r : List Fld} {bad : Bool} {x : ByteArray} (ho : okL l) (h : textP l bad = (x, r, false)) : bad = false ∧ l = txtF x :: r ∧ okL r := by
  unfold textP at h
  obtain ⟨⟨f, r', b'⟩, hn⟩ : ∃ a, nextP l bad 2 = a := ⟨_, rfl⟩
  rw [hn] at h
  simp at h
  obtain ⟨rfl, rfl, rfl⟩ := h
  obtain ⟨hb, rfl, hk⟩ := nextP_inv hn
  have := (okL_txt (ho f (by simp)) hk).1
  exact ⟨hb, by rw [← this], fun g hg => ho g (by simp [hg])⟩
theorem smallP_inv {l r : List Fld} {bad : Bool} {x m : Int} (ho : okL l) (h : smallP l bad m = (x, r, false)) : bad = false ∧ l = numF x :: r ∧ okL r ∧ 0 ≤ x ∧ x ≤ m := by
  unfold smallP at h
  split at h
  · simp at h
  · rename_i hn
    rw [h] at hn
    dsimp only at hn
    obtain ⟨a, b, c⟩ := intP_inv ho h
    exact ⟨a, b, c, by omega, by omega⟩
theorem bitP_inv {l r : List Fld} {bad : Bool} {x : Bool} (ho : okL l) (h : bitP l bad = (x, r, false)) : bad = false ∧ l = numF (bitI x) :: r ∧ okL r := by
  unfold bitP at h
  obtain ⟨⟨n, r', b'⟩, hn⟩ : ∃ a, smallP l bad 1 = a := ⟨_, rfl⟩
  rw [hn] at h
  simp at h
  obtain ⟨rfl, rfl, rfl⟩ := h
  obtain ⟨hb, rfl, ho', h0, h1⟩ := smallP_inv ho hn
  refine ⟨hb, ?_, ho'⟩
  rcases (show n = 0 ∨ n = 1 by omega) with rfl | rfl <;> rfl
theorem rintP_inv {l r : List Fld} {bad : Bool} {x m : Int} (ho : okL l) (h : rintP l bad m = (x, r, false)) : bad = false ∧ l = numF x :: r ∧ okL r ∧ 0 ≤ x ∧ x ≤ m := by
  cases bad
  · cases l with
    | nil => simp [rintP] at h
    | cons g t =>
      unfold rintP at h
      dsimp only at h
      split at h
      · rename_i hk
        simp at h
        obtain ⟨rfl, rfl⟩ := h
        have := okL_num (ho g (by simp)) hk.1
        exact ⟨rfl, by rw [← this], fun g hg => ho g (by simp [hg]), hk.2⟩
      · simp at h
  · simp [rintP] at h
theorem rtextP_inv {l r : List Fld} {bad : Bool} {x : ByteArray} (ho : okL l) (h : rtextP l bad = (x, r, false)) : bad = false ∧ l = txtF x :: r ∧ okL r := by
  cases bad
  · cases l with
    | nil => simp [rtextP] at h
    | cons g t =>
      unfold rtextP at h
      dsimp only at h
      split at h
      · rename_i hk
        simp at h
        obtain ⟨rfl, rfl⟩ := h
        have := (okL_txt (ho g (by simp)) hk).1
        exact ⟨rfl, by rw [← this], fun g hg => ho g (by simp [hg])⟩
      · simp at h
  · simp [rtextP] at h
theorem rflagP_inv {l r : List Fld} {bad : Bool} {x : Bool} (ho : okL l) (h : rflagP l bad = (x, r, false)) : bad = false ∧ l = numF (bitI x) :: r ∧ okL r := by
  unfold rflagP at h
  obtain ⟨⟨n, r', b'⟩, hn⟩ : ∃ a, rintP l bad 1 = a := ⟨_, rfl⟩
  rw [hn] at h
  simp at h
  obtain ⟨rfl, rfl, rfl⟩ := h
  obtain ⟨hb, rfl, ho', h0, h1⟩ := rintP_inv ho hn
  refine ⟨hb, ?_, ho'⟩
  rcases (show n = 0 ∨ n = 1 by omega) with rfl | rfl <;> rfl

/-! ### What is left is as right as what was -/
theorem nextP_ok {l : List Fld} (h : okL l) (bad : Bool) (k : Int) : okL (nextP l bad k).2.1 := by
  cases bad
  · cases l with
    | nil => exact h
    | cons f r =>
      unfold nextP
      dsimp only
      split
      · exact fun g hg => h g (by simp [hg])
      · exact h
  · exact h
theorem intP_ok {l : List Fld} (h : okL l) (bad : Bool) : okL (intP l bad).2.1 := nextP_ok h bad 1
theorem textP_ok {l : List Fld} (h : okL l) (bad : Bool) : okL (textP l bad).2.1 := nextP_ok h bad 2
theorem smallP_ok {l : List Fld} (h : okL l) (bad : Bool) (m : Int) : okL (smallP l bad m).2.1 := by
  unfold smallP
  split
  · exact intP_ok h bad
  · exact intP_ok h bad
theorem bitP_ok {l : List Fld} (h : okL l) (bad : Bool) : okL (bitP l bad).2.1 := smallP_ok h bad 1
theorem rintP_ok {l : List Fld} (h : okL l) (bad : Bool) (m : Int) : okL (rintP l bad m).2.1 := by
  cases bad
  · cases l with
    | nil => exact h
    | cons f r =>
      unfold rintP
      dsimp only
      split
      · exact fun g hg => h g (by simp [hg])
      · exact h
  · exact h
theorem rtextP_ok {l : List Fld} (h : okL l) (bad : Bool) : okL (rtextP l bad).2.1 := by
  cases bad
  · cases l with
    | nil => exact h
    | cons f r =>
      unfold rtextP
      dsimp only
      split
      · exact fun g hg => h g (by simp [hg])
      · exact h
  · exact h
theorem rflagP_ok {l : List Fld} (h : okL l) (bad : Bool) : okL (rflagP l bad).2.1 := rintP_ok h bad 1
theorem rdChg_ok {l : List Fld} (h : okL l) (bad : Bool) : okL (rdChg l bad).2.1 := textP_ok (bitP_ok (intP_ok (smallP_ok h _ _) _) _) _
theorem rrChg_ok {l : List Fld} (h : okL l) (bad : Bool) : okL (rrChg l bad).2.1 := rtextP_ok (rflagP_ok (rintP_ok (rintP_ok h _ _) _ _) _) _
theorem rdChgs_ok : ∀ (k : Nat) {l : List Fld} (h : okL l) (bad : Bool) (acc : List Chg), okL (rdChgs k l bad acc).2.1
  | 0, _, h, _, _ => h
  | k + 1, _, h, bad, _ => rdChgs_ok k (rdChg_ok h bad) _ _
theorem rrChgs_ok : ∀ (k : Nat) {l : List Fld} (h : okL l) (bad : Bool) (acc : List Chg), okL (rrChgs k l bad acc).2.1
  | 0, _, h, _, _ => h
  | k + 1, _, h, bad, _ => by
    rw [rrChgs]
    split
    · exact h
    · exact rrChgs_ok k (rrChg_ok h bad) _ _

/-! ### A change -/
theorem mayChg_parts {c : Chg} {t : Int} (h : mayChg c t = true) : 0 ≤ c.table ∧ c.table < t ∧ 1 ≤ c.key ∧ c.key ≤ 1099511627776 ∧ c.val.size ≤ 32 ∧ (c.gone = false ∨ c.val.size = 0) := of_decide_eq_true h

theorem rdChg_chg {c : Chg} (h : mayChg c 8 = true) (r : List Fld) : rdChg (chgF c ++ r) false = (c, r, false) := by
  have hp := mayChg_parts h
  unfold rdChg chgF
  simp only [List.cons_append, List.nil_append]
  rw [smallP_num _ _ _ hp.1 (by omega)]
  dsimp only
  rw [intP_num]
  dsimp only
  rw [bitP_num]
  dsimp only
  rw [textP_txt]
theorem rrChg_chg {c : Chg} (h : mayChg c 8 = true) (r : List Fld) : rrChg (chgF c ++ r) false = (c, r, false) := by
  have hp := mayChg_parts h
  unfold rrChg chgF
  simp only [List.cons_append, List.nil_append]
  rw [rintP_num _ _ _ hp.1 (by omega)]
  dsimp only
  rw [rintP_num _ _ _ (by omega) (by omega)]
  dsimp only
  rw [rflagP_num]
  dsimp only
  rw [rtextP_txt]
theorem rdChg_inv {l r : List Fld} {bad : Bool} {c : Chg} (ho : okL l) (h : rdChg l bad = (c, r, false)) : bad = false ∧ l = chgF c ++ r := by
  unfold rdChg at h
  obtain ⟨⟨x1, l1, b1⟩, h1⟩ : ∃ a, smallP l bad 8 = a := ⟨_, rfl⟩
  have o1 := smallP_ok ho bad 8
  rw [h1] at h o1; dsimp only at h o1
  obtain ⟨⟨x2, l2, b2⟩, h2⟩ : ∃ a, intP l1 b1 = a := ⟨_, rfl⟩
  have o2 := intP_ok o1 b1
  rw [h2] at h o2; dsimp only at h o2
  obtain ⟨⟨x3, l3, b3⟩, h3⟩ : ∃ a, bitP l2 b2 = a := ⟨_, rfl⟩
  have o3 := bitP_ok o2 b2
  rw [h3] at h o3; dsimp only at h o3
  obtain ⟨⟨x4, l4, b4⟩, h4⟩ : ∃ a, textP l3 b3 = a := ⟨_, rfl⟩
  rw [h4] at h; dsimp only at h
  simp only [Prod.mk.injEq] at h
  obtain ⟨rfl, rfl, rfl⟩ := h
  obtain ⟨rfl, rfl, _⟩ := textP_inv o3 h4
  obtain ⟨rfl, rfl, _⟩ := bitP_inv o2 h3
  obtain ⟨rfl, rfl, _⟩ := intP_inv o1 h2
  obtain ⟨rfl, rfl, _⟩ := smallP_inv ho h1
  exact ⟨rfl, rfl⟩
theorem rrChg_inv {l r : List Fld} {bad : Bool} {c : Chg} (ho : okL l) (h : rrChg l bad = (c, r, false)) : bad = false ∧ l = chgF c ++ r := by
  unfold rrChg at h
  obtain ⟨⟨x1, l1, b1⟩, h1⟩ : ∃ a, rintP l bad 7 = a := ⟨_, rfl⟩
  have o1 := rintP_ok ho bad 7
  rw [h1] at h o1; dsimp only at h o1
  obtain ⟨⟨x2, l2, b2⟩, h2⟩ : ∃ a, rintP l1 b1 1099511627776 = a := ⟨_, rfl⟩
  have o2 := rintP_ok o1 b1 1099511627776
  rw [h2] at h o2; dsimp only at h o2
  obtain ⟨⟨x3, l3, b3⟩, h3⟩ : ∃ a, rflagP l2 b2 = a := ⟨_, rfl⟩
  have o3 := rflagP_ok o2 b2
  rw [h3] at h o3; dsimp only at h o3
  obtain ⟨⟨x4, l4, b4⟩, h4⟩ : ∃ a, rtextP l3 b3 = a := ⟨_, rfl⟩
  rw [h4] at h; dsimp only at h
  simp only [Prod.mk.injEq] at h
  obtain ⟨rfl, rfl, rfl⟩ := h
  obtain ⟨rfl, rfl, _⟩ := rtextP_inv o3 h4
  obtain ⟨rfl, rfl, _⟩ := rflagP_inv o2 h3
  obtain ⟨rfl, rfl, _⟩ := rintP_inv o1 h2
  obtain ⟨rfl, rfl, _⟩ := rintP_inv ho h1
  exact ⟨rfl, rfl⟩

/-! ### Lists -/
theorem rdChgs_fwd : ∀ (cs acc : List Chg) (r : List Fld), cs.all (mayChg · 8) = true → rdChgs cs.length (cs.flatMap chgF ++ r) false acc = (acc ++ cs, r, false)
  | [], acc, r, _ => by simp [rdChgs]
  | c :: t, acc, r, h => by
    simp only [List.all_cons, Bool.and_eq_true] at h
    rw [List.length_cons, rdChgs, List.flatMap_cons, List.append_assoc, rdChg_chg h.1]
    dsimp only
    rw [rdChgs_fwd t _ r h.2, List.append_assoc, List.singleton_append]
theorem rrChgs_fwd : ∀ (cs acc : List Chg) (r : List Fld), cs.all (mayChg · 8) = true → rrChgs cs.length (cs.flatMap chgF ++ r) false acc = (acc ++ cs, r, false)
  | [], acc, r, _ => by simp [rrChgs]
  | c :: t, acc, r, h => by
    simp only [List.all_cons, Bool.and_eq_true] at h
    rw [List.length_cons, rrChgs, if_neg (by decide), List.flatMap_cons, List.append_assoc, rrChg_chg h.1]
    dsimp only
    rw [rrChgs_fwd t _ r h.2, List.append_assoc, List.singleton_append]
theorem rdTxts_fwd : ∀ (cs acc : List ByteArray) (r : List Fld), rdTxts cs.length (cs.map txtF ++ r) false acc = (acc ++ cs, r, false)
  | [], acc, r => by simp [rdTxts]
  | c :: t, acc, r => by
    rw [List.length_cons, rdTxts, List.map_cons, List.cons_append, textP_txt]
    dsimp only
    rw [rdTxts_fwd t _ r, List.append_assoc, List.singleton_append]
theorem rrTxts_fwd : ∀ (cs acc : List ByteArray) (r : List Fld), rrTxts cs.length (cs.map txtF ++ r) false acc = (acc ++ cs, r, false)
  | [], acc, r => by simp [rrTxts]
  | c :: t, acc, r => by
    rw [List.length_cons, rrTxts, if_neg (by decide), List.map_cons, List.cons_append, rtextP_txt]
    dsimp only
    rw [rrTxts_fwd t _ r, List.append_assoc, List.singleton_append]

theorem rdChgs_inv : ∀ (k : Nat) (l : List Fld) (bad : Bool) (acc cs : List Chg) (r : List Fld), okL l → rdChgs k l bad acc = (cs, r, false) → bad = false ∧ ∃ m, cs = acc ++ m ∧ m.length = k ∧ l = m.flatMap chgF ++ r
  | 0, l, bad, acc, cs, r, _, h => by
    simp only [rdChgs, Prod.mk.injEq] at h
    obtain ⟨rfl, rfl, rfl⟩ := h
    exact ⟨rfl, [], by simp, rfl, by simp⟩
  | k + 1, l, bad, acc, cs, r, ho, h => by
    rw [rdChgs] at h
    have o1 := rdChg_ok ho bad
    obtain ⟨⟨x, l1, b1⟩, h1⟩ : ∃ a, rdChg l bad = a := ⟨_, rfl⟩
    rw [h1] at h o1
    dsimp only at h o1
    obtain ⟨rfl, m, rfl, rfl, rfl⟩ := rdChgs_inv k l1 b1 _ cs r o1 h
    obtain ⟨rfl, rfl⟩ := rdChg_inv ho h1
    exact ⟨rfl, x :: m, by simp, rfl, by simp⟩
theorem rrChgs_inv : ∀ (k : Nat) (l : List Fld) (bad : Bool) (acc cs : List Chg) (r : List Fld), okL l → rrChgs k l bad acc = (cs, r, false) → bad = false ∧ ∃ m, cs = acc ++ m ∧ m.length = k ∧ l = m.flatMap chgF ++ r
  | 0, l, bad, acc, cs, r, _, h => by
    simp only [rrChgs, Prod.mk.injEq] at h
    obtain ⟨rfl, rfl, rfl⟩ := h
    exact ⟨rfl, [], by simp, rfl, by simp⟩
  | k + 1, l, bad, acc, cs, r, ho, h => by
    rw [rrChgs] at h
    split at h
    · rename_i hb
      simp [hb] at h
    · have o1 := rrChg_ok ho bad
      obtain ⟨⟨x, l1, b1⟩, h1⟩ : ∃ a, rrChg l bad = a := ⟨_, rfl⟩
      rw [h1] at h o1
      dsimp only at h o1
      obtain ⟨rfl, m, rfl, rfl, rfl⟩ := rrChgs_inv k l1 b1 _ cs r o1 h
      obtain ⟨rfl, rfl⟩ := rrChg_inv ho h1
      exact ⟨rfl, x :: m, by simp, rfl, by simp⟩
theorem rdTxts_inv : ∀ (k : Nat) (l : List Fld) (bad : Bool) (acc cs : List ByteArray) (r : List Fld), okL l → rdTxts k l bad acc = (cs, r, false) → bad = false ∧ ∃ m, cs = acc ++ m ∧ m.length = k ∧ l = m.map txtF ++ r
  | 0, l, bad, acc, cs, r, _, h => by
    simp only [rdTxts, Prod.mk.injEq] at h
    obtain ⟨rfl, rfl, rfl⟩ := h
    exact ⟨rfl, [], by simp, rfl, by simp⟩
  | k + 1, l, bad, acc, cs, r, ho, h => by
    rw [rdTxts] at h
    have o1 := textP_ok ho bad
    obtain ⟨⟨x, l1, b1⟩, h1⟩ : ∃ a, textP l bad = a := ⟨_, rfl⟩
    rw [h1] at h o1
    dsimp only at h o1
    obtain ⟨rfl, m, rfl, rfl, rfl⟩ := rdTxts_inv k l1 b1 _ cs r o1 h
    obtain ⟨rfl, rfl, _⟩ := textP_inv ho h1
    exact ⟨rfl, x :: m, by simp, rfl, by simp⟩
theorem rrTxts_inv : ∀ (k : Nat) (l : List Fld) (bad : Bool) (acc cs : List ByteArray) (r : List Fld), okL l → rrTxts k l bad acc = (cs, r, false) → bad = false ∧ ∃ m, cs = acc ++ m ∧ m.length = k ∧ l = m.map txtF ++ r
  | 0, l, bad, acc, cs, r, _, h => by
    simp only [rrTxts, Prod.mk.injEq] at h
    obtain ⟨rfl, rfl, rfl⟩ := h
    exact ⟨rfl, [], by simp, rfl, by simp⟩
  | k + 1, l, bad, acc, cs, r, ho, h => by
    rw [rrTxts] at h
    split at h
    · rename_i hb
      simp [hb] at h
    · have o1 := rtextP_ok ho bad
      obtain ⟨⟨x, l1, b1⟩, h1⟩ : ∃ a, rtextP l bad = a := ⟨_, rfl⟩
      rw [h1] at h o1
      dsimp only at h o1
      obtain ⟨rfl, m, rfl, rfl, rfl⟩ := rrTxts_inv k l1 b1 _ cs r o1 h
      obtain ⟨rfl, rfl, _⟩ := rtextP_inv ho h1
      exact ⟨rfl, x :: m, by simp, rfl, by simp⟩

/-! ### A transaction -/
theorem mayTxn_parts {t : Txn} (h : mayTxn t = true) : 1 ≤ t.lsn ∧ t.lsn ≤ 1099511627776 ∧ 1 ≤ t.kind ∧ t.kind ≤ 3 ∧ 0 ≤ t.mark ∧ t.mark ≤ 1099511627776 ∧ t.changes.length ≤ 16 ∧ t.signals.length ≤ 2 ∧ t.changes.all (mayChg · 8) = true ∧ t.signals.all (fun s => decide (s.size ≤ 40)) = true := by
  unfold mayTxn at h
  rw [Bool.and_eq_true] at h
  obtain ⟨h1, h2⟩ := h
  have h1' := of_decide_eq_true h1
  split at h2
  · rename_i hk
    unfold mayCli at h2
    rw [Bool.and_eq_true, Bool.and_eq_true] at h2
    have h3 := of_decide_eq_true h2.1
    exact ⟨h1'.1, h1'.2, by omega, by omega, by omega, by omega, h3.2.1, h3.2.2, h2.2.1, h2.2.2⟩
  · have h3 := of_decide_eq_true h2
    have e1 := List.eq_nil_of_length_eq_zero h3.2.2.2.1
    have e2 := List.eq_nil_of_length_eq_zero h3.2.2.2.2
    exact ⟨h1'.1, h1'.2, by omega, by omega, by omega, by omega, by omega, by omega, by rw [e1]; rfl, by rw [e2]; rfl⟩

theorem fieldsT_eq (t : Txn) (r : List Fld) : fieldsT t ++ r = numF t.lsn :: numF t.kind :: numF t.mark :: numF t.changes.length :: (t.changes.flatMap chgF ++ (numF t.signals.length :: (t.signals.map txtF ++ r))) := by
  unfold fieldsT; simp

theorem rdTxn_fwd {t : Txn} (h : mayTxn t = true) (r : List Fld) : rdTxn (fieldsT t ++ r) = (t, r, false) := by
  obtain ⟨h1, h2, h3, h4, h5, h6, h7, h8, h9, _⟩ := mayTxn_parts h
  rw [fieldsT_eq]
  unfold rdTxn
  rw [intP_num]; dsimp only
  rw [smallP_num _ _ _ (by omega) (by omega)]; dsimp only
  rw [intP_num]; dsimp only
  rw [smallP_num _ _ _ (by omega) (by omega)]; dsimp only
  rw [Int.toNat_natCast, rdChgs_fwd _ _ _ h9]; dsimp only
  rw [smallP_num _ _ _ (by omega) (by omega)]; dsimp only
  rw [Int.toNat_natCast, rdTxts_fwd]; rfl
theorem rrTxn_fwd {t : Txn} (h : mayTxn t = true) (r : List Fld) : rrTxn (fieldsT t ++ r) = (t, r, false) := by
  obtain ⟨h1, h2, h3, h4, h5, h6, h7, h8, h9, _⟩ := mayTxn_parts h
  rw [fieldsT_eq]
  unfold rrTxn
  rw [rintP_num _ _ _ (by omega) (by omega)]; dsimp only
  rw [rintP_num _ _ _ (by omega) (by omega)]; dsimp only
  rw [rintP_num _ _ _ (by omega) (by omega)]; dsimp only
  rw [rintP_num _ _ _ (by omega) (by omega)]; dsimp only
  rw [Int.toNat_natCast, rrChgs_fwd _ _ _ h9]; dsimp only
  rw [rintP_num _ _ _ (by omega) (by omega)]; dsimp only
  rw [Int.toNat_natCast, rrTxts_fwd]; rfl

theorem rdTxn_inv {l r : List Fld} {t : Txn} (ho : okL l) (h : rdTxn l = (t, r, false)) : l = fieldsT t ++ r := by
  rw [fieldsT_eq]
  unfold rdTxn at h
  obtain ⟨⟨x1, l1, b1⟩, h1⟩ : ∃ a, intP l false = a := ⟨_, rfl⟩
  have o1 := intP_ok ho false
  rw [h1] at h o1; dsimp only at h o1
  obtain ⟨⟨x2, l2, b2⟩, h2⟩ : ∃ a, smallP l1 b1 3 = a := ⟨_, rfl⟩
  have o2 := smallP_ok o1 b1 3
  rw [h2] at h o2; dsimp only at h o2
  obtain ⟨⟨x3, l3, b3⟩, h3⟩ : ∃ a, intP l2 b2 = a := ⟨_, rfl⟩
  have o3 := intP_ok o2 b2
  rw [h3] at h o3; dsimp only at h o3
  obtain ⟨⟨x4, l4, b4⟩, h4⟩ : ∃ a, smallP l3 b3 16 = a := ⟨_, rfl⟩
  have o4 := smallP_ok o3 b3 16
  rw [h4] at h o4; dsimp only at h o4
  obtain ⟨⟨x5, l5, b5⟩, h5⟩ : ∃ a, rdChgs x4.toNat l4 b4 [] = a := ⟨_, rfl⟩
  have o5 := rdChgs_ok x4.toNat o4 b4 []
  rw [h5] at h o5; dsimp only at h o5
  obtain ⟨⟨x6, l6, b6⟩, h6⟩ : ∃ a, smallP l5 b5 2 = a := ⟨_, rfl⟩
  have o6 := smallP_ok o5 b5 2
  rw [h6] at h o6; dsimp only at h o6
  obtain ⟨⟨x7, l7, b7⟩, h7⟩ : ∃ a, rdTxts x6.toNat l6 b6 [] = a := ⟨_, rfl⟩
  rw [h7] at h; dsimp only at h
  simp only [Prod.mk.injEq] at h
  obtain ⟨rfl, rfl, rfl⟩ := h
  obtain ⟨rfl, m7, rfl, e7, rfl⟩ := rdTxts_inv _ _ _ _ _ _ o6 h7
  obtain ⟨rfl, rfl, _, p6, _⟩ := smallP_inv o5 h6
  obtain ⟨rfl, m5, rfl, e5, rfl⟩ := rdChgs_inv _ _ _ _ _ _ o4 h5
  obtain ⟨rfl, rfl, _, p4, _⟩ := smallP_inv o3 h4
  obtain ⟨rfl, rfl, _⟩ := intP_inv o2 h3
  obtain ⟨rfl, rfl, _⟩ := smallP_inv o1 h2
  obtain ⟨_, rfl, _⟩ := intP_inv ho h1
  obtain rfl : x4 = (x5.length : Int) := by omega
  obtain rfl : x6 = (x7.length : Int) := by omega
  simp
theorem rrTxn_inv {l r : List Fld} {t : Txn} (ho : okL l) (h : rrTxn l = (t, r, false)) : l = fieldsT t ++ r := by
  rw [fieldsT_eq]
  unfold rrTxn at h
  obtain ⟨⟨x1, l1, b1⟩, h1⟩ : ∃ a, rintP l false 1099511627776 = a := ⟨_, rfl⟩
  have o1 := rintP_ok ho false 1099511627776
  rw [h1] at h o1; dsimp only at h o1
  obtain ⟨⟨x2, l2, b2⟩, h2⟩ : ∃ a, rintP l1 b1 3 = a := ⟨_, rfl⟩
  have o2 := rintP_ok o1 b1 3
  rw [h2] at h o2; dsimp only at h o2
  obtain ⟨⟨x3, l3, b3⟩, h3⟩ : ∃ a, rintP l2 b2 1099511627776 = a := ⟨_, rfl⟩
  have o3 := rintP_ok o2 b2 1099511627776
  rw [h3] at h o3; dsimp only at h o3
  obtain ⟨⟨x4, l4, b4⟩, h4⟩ : ∃ a, rintP l3 b3 16 = a := ⟨_, rfl⟩
  have o4 := rintP_ok o3 b3 16
  rw [h4] at h o4; dsimp only at h o4
  obtain ⟨⟨x5, l5, b5⟩, h5⟩ : ∃ a, rrChgs x4.toNat l4 b4 [] = a := ⟨_, rfl⟩
  have o5 := rrChgs_ok x4.toNat o4 b4 []
  rw [h5] at h o5; dsimp only at h o5
  obtain ⟨⟨x6, l6, b6⟩, h6⟩ : ∃ a, rintP l5 b5 2 = a := ⟨_, rfl⟩
  have o6 := rintP_ok o5 b5 2
  rw [h6] at h o6; dsimp only at h o6
  obtain ⟨⟨x7, l7, b7⟩, h7⟩ : ∃ a, rrTxts x6.toNat l6 b6 [] = a := ⟨_, rfl⟩
  rw [h7] at h; dsimp only at h
  simp only [Prod.mk.injEq] at h
  obtain ⟨rfl, rfl, rfl⟩ := h
  obtain ⟨rfl, m7, rfl, e7, rfl⟩ := rrTxts_inv _ _ _ _ _ _ o6 h7
  obtain ⟨rfl, rfl, _, p6, _⟩ := rintP_inv o5 h6
  obtain ⟨rfl, m5, rfl, e5, rfl⟩ := rrChgs_inv _ _ _ _ _ _ o4 h5
  obtain ⟨rfl, rfl, _, p4, _⟩ := rintP_inv o3 h4
  obtain ⟨rfl, rfl, _⟩ := rintP_inv o2 h3
  obtain ⟨rfl, rfl, _⟩ := rintP_inv o1 h2
  obtain ⟨_, rfl, _⟩ := rintP_inv ho h1
  obtain rfl : x4 = (x5.length : Int) := by omega
  obtain rfl : x6 = (x7.length : Int) := by omega
  simp

/-! ### What is decoded -/
theorem dec_casesT (b : List UInt8) : (∃ e, e ≠ 0 ∧ decV b = [] ∧ decE b = e) ∨ (∃ l, decO b = .ok l ∧ decV b = l ∧ decE b = 0) := by
  unfold decV decE
  cases h : decO b with
  | ok l => exact .inr ⟨l, rfl, rfl, rfl⟩
  | error e =>
    left
    refine ⟨e, ?_, rfl, rfl⟩
    have hF : ∀ (b : List UInt8) (e : Int), decF b = .error e → e ≠ 0 := by
      intro b e h
      have := fieldF_dec b
      rw [h] at this
      exact this.1
    have hN : ∀ (k : Nat) (b : List UInt8) (acc : List Fld) (e : Int), decN k b acc = .error e → e ≠ 0 := by
      intro k
      induction k with
      | zero => intro b acc e h; rw [decN] at h; split at h <;> cases h; decide
      | succ k ih =>
        intro b acc e h
        rw [decN] at h
        split at h
        · rename_i e' he; cases h; exact hF _ _ he
        · exact ih _ _ _ h
    unfold decO at h
    split at h
    · cases h; decide
    · split at h
      · cases h; decide
      · exact hN _ _ _ _ h

theorem dec_not0 (b : List UInt8) : decO b ≠ .error 0 := by
  intro h
  rcases dec_casesT b with ⟨e, he, _, h2⟩ | ⟨l, hl, _, _⟩
  · unfold decE at h2
    rw [h] at h2
    exact he h2.symm
  · rw [h] at hl; cases hl
theorem dec_okT {b : List UInt8} (h : decE b = 0) : decO b = .ok (decV b) := by
  unfold decE at h
  unfold decV
  cases hd : decO b with
  | ok l => rfl
  | error e =>
    rw [hd] at h
    dsimp only at h
    subst h
    exact absurd hd (dec_not0 b)

theorem decT_cases (b : List UInt8) : (decE b = 0 ∧ ∃ t, decV b = fieldsT t ∧ mayTxn t = true ∧ decTV b = t ∧ decTE b = 0 ∧ rdecTV b = t ∧ rdecTE b = 0) ∨ (decTV b = txn0 ∧ rdecTV b = txn0 ∧ decTE b ≠ 0 ∧ rdecTE b = decTE b) := by
  unfold decTV decTE rdecTV rdecTE
  by_cases he : decE b = 0
  · have ho : okL (decV b) := by
      obtain ⟨h1, h2, h3⟩ := encO_dec (dec_okT he)
      intro f hf
      unfold encO at h1
      split at h1
      · rename_i h
        exact List.all_eq_true.1 h.2 f hf
      · cases h1
    have key : ∀ t, mayTxn t = true → (rdTxn (decV b) = (t, [], false) ↔ rrTxn (decV b) = (t, [], false)) := by
      intro t ht
      constructor
      · intro h
        rw [rdTxn_inv ho h, rrTxn_fwd ht]
      · intro h
        rw [rrTxn_inv ho h, rdTxn_fwd ht]
    obtain ⟨⟨t, r, bd⟩, hr⟩ : ∃ a, rdTxn (decV b) = a := ⟨_, rfl⟩
    obtain ⟨⟨t2, r2, bd2⟩, hr2⟩ : ∃ a, rrTxn (decV b) = a := ⟨_, rfl⟩
    rw [hr, hr2] at key
    rw [hr, hr2]
    dsimp only
    by_cases hg : bd = false ∧ r = [] ∧ mayTxn t = true
    · obtain ⟨rfl, rfl, hm⟩ := hg
      have e := (key t hm).1 rfl
      simp only [Prod.mk.injEq] at e
      obtain ⟨rfl, rfl, rfl⟩ := e
      left
      refine ⟨he, t2, ?_, hm, ?_, ?_, ?_, ?_⟩
      · have := rdTxn_inv ho hr
        simpa using this
      · rw [if_pos ⟨he, rfl, rfl, hm⟩]
      · rw [if_pos he, if_pos ⟨rfl, rfl, hm⟩]
      · rw [if_pos ⟨he, rfl, rfl, hm⟩]
      · rw [if_pos he, if_pos ⟨rfl, rfl, hm⟩]
    · have hg2 : ¬ (bd2 = false ∧ r2 = [] ∧ mayTxn t2 = true) := by
        rintro ⟨rfl, rfl, hm⟩
        have e := (key t2 hm).2 rfl
        simp only [Prod.mk.injEq] at e
        obtain ⟨rfl, rfl, rfl⟩ := e
        exact hg ⟨rfl, rfl, hm⟩
      right
      rw [if_neg (fun h => hg h.2), if_neg (fun h => hg2 h.2), if_pos he, if_pos he, if_neg hg, if_neg hg2]
      exact ⟨rfl, rfl, by decide, rfl⟩
  · right
    rw [if_neg (fun h => he h.1), if_neg (fun h => he h.1), if_neg he, if_neg he]
    exact ⟨rfl, rfl, he, rfl⟩

theorem decT_same (b : List UInt8) : rdecTV b = decTV b ∧ rdecTE b = decTE b := by
  rcases decT_cases b with ⟨_, t, _, _, h1, h2, h3, h4⟩ | ⟨h1, h2, _, h4⟩
  · rw [h1, h2, h3, h4]; exact ⟨rfl, rfl⟩
  · rw [h1, h2, h4]; exact ⟨rfl, rfl⟩

/-- What is decoded is encoded as the same bytes. -/
theorem encT_dec {b : List UInt8} (h : decTE b = 0) : encTE (decTV b) = 0 ∧ encTV (decTV b) = b := by
  rcases decT_cases b with ⟨he, t, hf, hm, h1, h2, h3, h4⟩ | ⟨_, _, hn, _⟩
  · rw [h1]
    unfold encTE encTV
    rw [if_pos hm, if_pos hm, ← hf]
    obtain ⟨e1, _, _⟩ := encO_dec (dec_okT he)
    unfold encE encV
    rw [e1]
    exact ⟨rfl, rfl⟩
  · exact absurd h hn

theorem okT {s : ByteArray} (h : s.size ≤ 4096) : okField (txtF s) = true := by
  unfold okField txtF
  rw [decide_eq_true h]
  rfl

theorem fieldsT_ok {t : Txn} (h : mayTxn t = true) : (fieldsT t).all okField = true ∧ (fieldsT t).length ≤ 71 := by
  obtain ⟨h1, h2, h3, h4, h5, h6, h7, h8, h9, h10⟩ := mayTxn_parts h
  constructor
  · rw [List.all_eq_true]
    intro f hf
    unfold fieldsT at hf
    simp only [List.mem_append, List.mem_flatMap, List.mem_map, List.mem_cons, List.not_mem_nil, or_false] at hf
    rcases hf with ((hf | ⟨c, hc, hf⟩) | rfl) | ⟨s, hs, rfl⟩
    · rcases hf with rfl | rfl | rfl | rfl <;> simp [okField, numF]
    · have hp := mayChg_parts (List.all_eq_true.1 h9 c hc)
      unfold chgF at hf
      simp only [List.mem_cons, List.not_mem_nil, or_false] at hf
      rcases hf with rfl | rfl | rfl | rfl
      · simp [okField, numF]
      · simp [okField, numF]
      · simp [okField, numF]
      · exact okT (by omega)
    · simp [okField, numF]
    · have hp : s.size ≤ 40 := of_decide_eq_true (List.all_eq_true.1 h10 s hs)
      exact okT (by omega)
  · unfold fieldsT
    simp only [List.length_append, List.length_cons, List.length_nil, List.length_map, chgF_len]
    omega

theorem fieldsT_wf {t : Txn} (h : mayTxn t = true) : ∀ f ∈ fieldsT t, f.wf := by
  obtain ⟨h1, h2, h3, h4, h5, h6, h7, h8, h9, h10⟩ := mayTxn_parts h
  intro f hf
  unfold fieldsT at hf
  simp only [List.mem_append, List.mem_flatMap, List.mem_map, List.mem_cons, List.not_mem_nil, or_false] at hf
  have hi : ∀ n : Int, 0 ≤ n → n ≤ 1099511627776 → (numF n).wf := fun n a b => numF_wf (by unfold I64; omega)
  rcases hf with ((hf | ⟨c, hc, hf⟩) | rfl) | ⟨s, hs, rfl⟩
  · rcases hf with rfl | rfl | rfl | rfl <;> exact hi _ (by omega) (by omega)
  · have hp := mayChg_parts (List.all_eq_true.1 h9 c hc)
    unfold chgF at hf
    simp only [List.mem_cons, List.not_mem_nil, or_false] at hf
    rcases hf with rfl | rfl | rfl | rfl
    · exact hi _ (by omega) (by omega)
    · exact hi _ (by omega) (by omega)
    · exact numF_wf (bitI_wf _)
    · exact txtF_wf (by unfold maxLen; omega)
  · exact hi _ (by omega) (by omega)
  · have hp : s.size ≤ 40 := of_decide_eq_true (List.all_eq_true.1 h10 s hs)
    exact txtF_wf (by unfold maxLen; omega)

/-- What is encoded is decoded; cut off it is too short; with more behind it is none. -/
theorem decT_enc {t : Txn} (h : mayTxn t = true) : encTE t = 0 ∧ 2 ≤ (encTV t).length ∧ (encTV t).length ≤ 300000 ∧ decTE (encTV t) = 0 ∧ decTV (encTV t) = t ∧ (∀ k, k < (encTV t).length → decTE ((encTV t).take k) = 2) ∧ (∀ m, decTE (encTV t ++ [m]) = 3) := by
  obtain ⟨ha, hl⟩ := fieldsT_ok h
  have hw := fieldsT_wf h
  have hl' : (fieldsT t).length ≤ 32767 := by omega
  have hE : encTE t = 0 ∧ encTV t = encB (fieldsT t) := by
    unfold encTE encTV encE encV
    rw [if_pos h, if_pos h, encO_eq hl' ha]
    exact ⟨rfl, rfl⟩
  rw [hE.2]
  have hd : decO (encB (fieldsT t)) = .ok (fieldsT t) := by
    have := decO_enc hl' ha hw []
    rw [List.append_nil, if_pos rfl] at this
    exact this
  have hv : decV (encB (fieldsT t)) = fieldsT t ∧ decE (encB (fieldsT t)) = 0 := by unfold decV decE; rw [hd]; exact ⟨rfl, rfl⟩
  have hr := rdTxn_fwd h []
  rw [List.append_nil] at hr
  refine ⟨hE.1, ?_, ?_, ?_, ?_, ?_, ?_⟩
  · unfold encB; rw [List.length_append, bigB_len]; omega
  · unfold encB; rw [List.length_append, bigB_len]; have := encL_len ha; omega
  · unfold decTE
    rw [hv.1, hv.2, hr, if_pos rfl, if_pos ⟨rfl, rfl, h⟩]
  · unfold decTV
    rw [hv.1, hv.2, hr, if_pos ⟨rfl, rfl, rfl, h⟩]
  · intro k hk
    have := decO_cut hl' ha hw hk
    have he : decE ((encB (fieldsT t)).take k) = 2 := by unfold decE; rw [this]
    unfold decTE
    rw [he, if_neg (by decide)]
  · intro m
    have := decO_enc hl' ha hw [m]
    rw [if_neg (by simp)] at this
    have he : decE (encB (fieldsT t) ++ [m]) = 3 := by unfold decE; rw [this]
    unfold decTE
    rw [he, if_neg (by decide)]
end Go.Proofs.Ytojjeogpggielaa
