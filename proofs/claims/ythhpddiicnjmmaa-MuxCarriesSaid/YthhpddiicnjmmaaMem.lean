/- Words for memory that is read as typed lists: a representation of a type's cells, a slice that reads as a list, a slice that the call itself owns, and what an append makes of them. Holds over every program. -/
import Derived.WalkKit
import Derived.WalkSpells
import Derived.WalkLawsBesides
import Derived.Maps.AppendAt
import Derived.Deep.AppendLies
import Derived.Deep.Draws
namespace Go.Proofs.Ythhpddiicnjmmaa
open Go.RowKit

/-! ### Small facts -/
theorem add_none (b o k : Nat) : (⟨b, o, none⟩ : Addr).add k = ⟨b, o + k, none⟩ := by
  unfold Addr.add; split <;> simp_all

theorem below_drewN {B : Nat} {a w : World} (h : Below B a w) (n : Nat) : Below B a (w.drewN n) := ⟨h.os, h.tape, h.output, h.size, h.block⟩

theorem below_of_drewN {w w' : World} {m : Nat} (h : Below (w.drewN m).heap.size (w.drewN m) w') : Below w.heap.size w w' := ⟨h.os, h.tape, h.output, h.size, h.block⟩
theorem below_of_drew {w w' : World} (h : Below w.drew.heap.size w.drew w') : Below w.heap.size w w' := ⟨h.os, h.tape, h.output, h.size, h.block⟩

theorem below_of_drew' {B : Nat} {w w' : World} (h : Below B w.drew w') : Below B w w' := ⟨h.os, h.tape, h.output, h.size, h.block⟩

theorem Below.keep {B : Nat} {w w' : World} (h : Below B w w') : ∀ p : Addr, p.block < B → w'.cell? p = w.cell? p := fun _ hp => h.cell hp

theorem run_eql_nil_at {P : Program} (w : World) (t e : TypeId) (a : Option Addr) (n c : Nat) (h : P.underlying t = some (.slice e)) :
    (binOp .eql t (.slice a n c) (.slice none 0 0)).run P w = .ok (.bool a.isNone) w := by
  simp only [binOp]
  simp [Op.equal, Op.maxDepth, Lib.run_equalIn_slice_nil w 9999 t e a n c 0 0 h]

/-! ### How a Lean value lies in cells -/
structure Rep (α : Type) where
  size : Nat
  pos : 0 < size
  rel : World → (Nat → Prop) → α → List Value → Prop
  len : ∀ {w S a cs}, rel w S a cs → cs.length = size
  one : ∀ {w S a cs}, rel w S a cs → ∀ u ∈ cs, u.oneCell' = true
  keep : ∀ {w w' : World} {S : Nat → Prop} {a cs}, rel w S a cs → (∀ p : Addr, S p.block → w'.cell? p = w.cell? p) → rel w' S a cs
  weak : ∀ {w} {S S' : Nat → Prop} {a cs}, rel w S a cs → (∀ b, S b → S' b) → rel w S' a cs

/-- A type without pointers: its cells are a function of the value. -/
def Rep.flat {α : Type} (size : Nat) (pos : 0 < size) (enc : α → List Value) (wf : α → Prop) (hl : ∀ a, (enc a).length = size) (h1 : ∀ a, ∀ u ∈ enc a, u.oneCell' = true) : Rep α where
  size := size
  pos := pos
  rel := fun _ _ a cs => cs = enc a ∧ wf a
  len := by rintro w S a cs ⟨rfl, _⟩; exact hl a
  one := by rintro w S a cs ⟨rfl, _⟩; exact h1 a
  keep := by intro w w' S a cs h _; exact h
  weak := by intro w S S' a cs h _; exact h

/-- The cells of a list of elements, one behind the other. -/
def Rows {α : Type} (R : Rep α) (w : World) (S : Nat → Prop) (l : List α) (xss : List (List Value)) : Prop :=
  xss.length = l.length ∧ ∀ (k : Nat) (a : α) (cs : List Value), l[k]? = some a → xss[k]? = some cs → R.rel w S a cs

theorem flatten_len {size : Nat} : ∀ {xss : List (List Value)}, (∀ cs ∈ xss, cs.length = size) → xss.flatten.length = xss.length * size
  | [], _ => by simp
  | cs :: r, h => by
    rw [List.flatten_cons, List.length_append, flatten_len (fun c hc => h c (List.mem_cons_of_mem _ hc)), h cs (List.mem_cons_self ..), List.length_cons, Nat.add_mul]
    omega

theorem flatten_at {size : Nat} : ∀ {xss : List (List Value)} (_ : ∀ cs ∈ xss, cs.length = size) {k j : Nat} {cs : List Value}, xss[k]? = some cs → j < size → xss.flatten[k * size + j]? = cs[j]?
  | [], _, k, j, cs, hk, _ => by simp at hk
  | c :: r, h, 0, j, cs, hk, hj => by
    obtain rfl : c = cs := by simpa using hk
    have hc := h c (List.mem_cons_self ..)
    rw [List.flatten_cons, Nat.zero_mul, Nat.zero_add, List.getElem?_append_left (by omega)]
  | c :: r, h, k + 1, j, cs, hk, hj => by
    have hc := h c (List.mem_cons_self ..)
    rw [List.flatten_cons, Nat.add_mul, List.getElem?_append_right (by omega)]
    have := flatten_at (xss := r) (fun c hc => h c (List.mem_cons_of_mem _ hc)) (k := k) (j := j) (cs := cs) (by simpa using hk) hj
    rw [show k * size + 1 * size + j - c.length = k * size + j by omega]
    exact this

section
variable {α : Type} {R : Rep α} {w w' : World} {S S' : Nat → Prop} {l l' : List α} {xss xss' : List (List Value)}

theorem Rows.nil : Rows R w S [] [] := ⟨rfl, by intro k a cs h; simp at h⟩

theorem Rows.lens (h : Rows R w S l xss) : ∀ cs ∈ xss, cs.length = R.size := by
  intro cs hcs
  obtain ⟨k, hk, rfl⟩ := List.mem_iff_getElem.1 hcs
  exact R.len (h.2 k (l[k]'(by rw [← h.1]; exact hk)) xss[k] (List.getElem?_eq_getElem _) (List.getElem?_eq_getElem _))

theorem Rows.flat_len (h : Rows R w S l xss) : xss.flatten.length = l.length * R.size := by rw [flatten_len h.lens, h.1]

theorem Rows.ones (h : Rows R w S l xss) : ∀ u ∈ xss.flatten, u.oneCell' = true := by
  intro u hu
  obtain ⟨cs, hcs, hu⟩ := List.mem_flatten.1 hu
  obtain ⟨k, hk, rfl⟩ := List.mem_iff_getElem.1 hcs
  exact R.one (h.2 k (l[k]'(by rw [← h.1]; exact hk)) xss[k] (List.getElem?_eq_getElem _) (List.getElem?_eq_getElem _)) u hu

theorem Rows.keep (h : Rows R w S l xss) (hk : ∀ p : Addr, S p.block → w'.cell? p = w.cell? p) : Rows R w' S l xss :=
  ⟨h.1, fun k a cs ha hc => R.keep (h.2 k a cs ha hc) hk⟩

theorem Rows.weak (h : Rows R w S l xss) (hS : ∀ b, S b → S' b) : Rows R w S' l xss :=
  ⟨h.1, fun k a cs ha hc => R.weak (h.2 k a cs ha hc) hS⟩

theorem Rows.append (h : Rows R w S l xss) (h' : Rows R w S l' xss') : Rows R w S (l ++ l') (xss ++ xss') := by
  refine ⟨by simp [h.1, h'.1], fun k a cs ha hc => ?_⟩
  by_cases hk : k < l.length
  · rw [List.getElem?_append_left hk] at ha
    rw [List.getElem?_append_left (by rw [h.1]; exact hk)] at hc
    exact h.2 k a cs ha hc
  · rw [List.getElem?_append_right (by omega)] at ha
    rw [List.getElem?_append_right (by rw [h.1]; omega), h.1] at hc
    exact h'.2 _ a cs ha hc

theorem Rows.single {a : α} {cs : List Value} (h : R.rel w S a cs) : Rows R w S [a] [cs] := by
  refine ⟨rfl, fun k b c hb hc => ?_⟩
  match k, hb, hc with
  | 0, hb, hc =>
    obtain rfl : a = b := by simpa using hb
    obtain rfl : cs = c := by simpa using hc
    exact h

theorem Rows.drop (h : Rows R w S l xss) (k : Nat) : Rows R w S (l.drop k) (xss.drop k) :=
  ⟨by simp [h.1], fun i a cs ha hc => h.2 (k + i) a cs (by simpa using ha) (by simpa using hc)⟩

theorem Rows.take (h : Rows R w S l xss) (k : Nat) : Rows R w S (l.take k) (xss.take k) := by
  refine ⟨by simp [h.1], fun i a cs ha hc => h.2 i a cs ?_ ?_⟩
  · rw [List.getElem?_take] at ha; split at ha <;> simp_all
  · rw [List.getElem?_take] at hc; split at hc <;> simp_all

theorem flatten_drop {size : Nat} : ∀ {xss : List (List Value)} (_ : ∀ cs ∈ xss, cs.length = size) (k : Nat), (xss.drop k).flatten = xss.flatten.drop (k * size)
  | [], _, k => by simp
  | c :: r, h, 0 => by simp
  | c :: r, h, k + 1 => by
    have hc := h c (List.mem_cons_self ..)
    have e1 : c.drop ((k + 1) * size) = [] := List.drop_eq_nil_of_le (by rw [hc, Nat.add_mul]; omega)
    have e2 : (k + 1) * size - c.length = k * size := by rw [hc, Nat.add_mul]; omega
    rw [List.drop_succ_cons, flatten_drop (fun c hc => h c (List.mem_cons_of_mem _ hc)), List.flatten_cons, List.drop_append, e1, e2, List.nil_append]

theorem flatten_take {size : Nat} : ∀ {xss : List (List Value)} (_ : ∀ cs ∈ xss, cs.length = size) (k : Nat), (xss.take k).flatten = xss.flatten.take (k * size)
  | [], _, k => by simp
  | c :: r, h, 0 => by simp
  | c :: r, h, k + 1 => by
    have hc := h c (List.mem_cons_self ..)
    have e1 : c.take ((k + 1) * size) = c := List.take_of_length_le (by rw [hc, Nat.add_mul]; omega)
    have e2 : (k + 1) * size - c.length = k * size := by rw [hc, Nat.add_mul]; omega
    rw [List.take_succ_cons, List.flatten_cons, flatten_take (fun c hc => h c (List.mem_cons_of_mem _ hc)), List.flatten_cons, List.take_append, e1, e2]

/-! ### Cells in a row -/
/-- The cells xs lie from that address on (nothing is said of the address where there are none), in a block of S. -/
def Cellz (w : World) (S : Nat → Prop) (A : Option Addr) (xs : List Value) : Prop :=
  xs ≠ [] → ∃ b off, A = some ⟨b, off, none⟩ ∧ S b ∧ ∀ j u, xs[j]? = some u → w.cell? ⟨b, off + j, none⟩ = some u

theorem Cellz.nil {A : Option Addr} : Cellz w S A [] := fun h => absurd rfl h

theorem Cellz.keep {A : Option Addr} {xs : List Value} (h : Cellz w S A xs) (hk : ∀ p : Addr, S p.block → w'.cell? p = w.cell? p) : Cellz w' S A xs := by
  intro hn
  obtain ⟨b, off, hA, hb, hc⟩ := h hn
  exact ⟨b, off, hA, hb, fun j u hu => (hk _ hb).trans (hc j u hu)⟩

theorem Cellz.weak {A : Option Addr} {xs : List Value} (h : Cellz w S A xs) (hS : ∀ b, S b → S' b) : Cellz w S' A xs := by
  intro hn
  obtain ⟨b, off, hA, hb, hc⟩ := h hn
  exact ⟨b, off, hA, hS _ hb, hc⟩

theorem Cellz.take {A : Option Addr} {xs : List Value} (h : Cellz w S A xs) (k : Nat) : Cellz w S A (xs.take k) := by
  intro hn
  obtain ⟨b, off, hA, hb, hc⟩ := h (by rintro rfl; simp at hn)
  refine ⟨b, off, hA, hb, fun j u hu => hc j u ?_⟩
  rw [List.getElem?_take] at hu
  split at hu <;> simp_all

theorem Cellz.drop {A A' : Option Addr} {xs : List Value} (h : Cellz w S A xs) (k : Nat) (hA' : k < xs.length → A' = A.map (·.add k)) : Cellz w S A' (xs.drop k) := by
  intro hn
  have hk : k < xs.length := by
    rcases Nat.lt_or_ge k xs.length with h | h
    · exact h
    · exact absurd (List.drop_eq_nil_of_le h) hn
  obtain ⟨b, off, rfl, hb, hc⟩ := h (by rintro rfl; simp at hk)
  refine ⟨b, off + k, by rw [hA' hk]; simp [add_none], hb, fun j u hu => ?_⟩
  rw [Nat.add_assoc]
  exact hc (k + j) u (by simpa using hu)

/-! ### A slice that reads as a list -/
def IsSl (R : Rep α) (w : World) (S : Nat → Prop) (A : Option Addr) (n : Nat) (l : List α) : Prop :=
  n = l.length ∧ ∃ xss, Rows R w S l xss ∧ Cellz w S A xss.flatten

theorem IsSl.len {A : Option Addr} {n : Nat} (h : IsSl R w S A n l) : n = l.length := h.1

theorem IsSl.nil {A : Option Addr} : IsSl R w S A 0 [] := ⟨rfl, [], Rows.nil, Cellz.nil⟩

theorem IsSl.keep {A : Option Addr} {n : Nat} (h : IsSl R w S A n l) (hk : ∀ p : Addr, S p.block → w'.cell? p = w.cell? p) : IsSl R w' S A n l := by
  obtain ⟨h1, xss, h2, h3⟩ := h
  exact ⟨h1, xss, h2.keep hk, h3.keep hk⟩

theorem IsSl.weak {A : Option Addr} {n : Nat} (h : IsSl R w S A n l) (hS : ∀ b, S b → S' b) : IsSl R w S' A n l := by
  obtain ⟨h1, xss, h2, h3⟩ := h
  exact ⟨h1, xss, h2.weak hS, h3.weak hS⟩

/-- Behind a call that has left all blocks below B as they were. -/
theorem IsSl.below {A : Option Addr} {n B : Nat} (h : IsSl R w (· < B) A n l) (hb : Below B w w') : IsSl R w' (· < B) A n l := h.keep fun _ hp => hb.cell hp

theorem IsSl.more {A : Option Addr} {n B B' : Nat} (h : IsSl R w (· < B) A n l) (hB : B ≤ B') : IsSl R w (· < B') A n l := h.weak fun _ hb => Nat.lt_of_lt_of_le hb hB

/-- The element at k: where its cells lie. -/
theorem IsSl.at_ {A : Option Addr} {n k : Nat} (h : IsSl R w S A n l) (hk : k < n) :
    ∃ b off a cs, A = some ⟨b, off, none⟩ ∧ S b ∧ l[k]? = some a ∧ R.rel w S a cs ∧ ∀ j u, cs[j]? = some u → w.cell? ⟨b, off + k * R.size + j, none⟩ = some u := by
  obtain ⟨h1, xss, h2, h3⟩ := h
  have hk2 : k < xss.length := by rw [h2.1, ← h1]; exact hk
  have hr := h2.2 k (l[k]'(by omega)) xss[k] (List.getElem?_eq_getElem _) (List.getElem?_eq_getElem _)
  have hl := R.len hr
  have hp := R.pos
  have hfl := h2.flat_len
  have hne : xss.flatten ≠ [] := by
    intro e
    rw [e, List.length_nil] at hfl
    have : 0 < l.length * R.size := Nat.mul_pos (by omega) hp
    omega
  obtain ⟨b, off, hA, hb, hc⟩ := h3 hne
  refine ⟨b, off, _, xss[k], hA, hb, List.getElem?_eq_getElem _, hr, fun j u hu => ?_⟩
  have hj : j < R.size := by rw [← hl]; exact (List.getElem?_eq_some_iff.1 hu).1
  rw [Nat.add_assoc]
  exact hc _ u (by rw [flatten_at h2.lens (List.getElem?_eq_getElem hk2) hj]; exact hu)

/-- 's[lo:hi]'. -/
theorem IsSl.cut {A A' : Option Addr} {n lo hi : Nat} (h : IsSl R w S A n l) (h1 : lo ≤ hi) (h2 : hi ≤ n) (hA : lo < n → A' = A.map (·.add (lo * R.size))) :
    IsSl R w S A' (hi - lo) ((l.take hi).drop lo) := by
  obtain ⟨rfl, xss, hr, hc⟩ := h
  refine ⟨by simp; omega, (xss.take hi).drop lo, (hr.take hi).drop lo, ?_⟩
  have ht := (hr.take hi).lens
  rw [flatten_drop ht, flatten_take hr.lens]
  refine (hc.take _).drop _ fun hlt => hA ?_
  rw [List.length_take, hr.flat_len] at hlt
  exact Nat.lt_of_mul_lt_mul_right (Nat.lt_of_lt_of_le hlt (Nat.min_le_right ..))

/-- 's[:hi]'. -/
theorem IsSl.cutTo {A : Option Addr} {n hi : Nat} (h : IsSl R w S A n l) (h2 : hi ≤ n) : IsSl R w S A hi (l.take hi) := by
  have := h.cut (lo := 0) (Nat.zero_le _) h2 (A' := A) (fun _ => by simp [Addr.add])
  simpa using this

/-- 's[lo:]', the address as the walk leaves it. -/
theorem IsSl.cutFrom {A : Option Addr} {n lo cap : Nat} (h : IsSl R w S A n l) (h1 : lo ≤ n) (hc : n ≤ cap) :
    IsSl R w S (if cap = lo then A else A.map (·.add (lo * R.size))) (n - lo) (l.drop lo) := by
  have := h.cut (lo := lo) h1 (Nat.le_refl n) (A' := if cap = lo then A else A.map (·.add (lo * R.size))) (fun hlt => if_neg (by omega))
  rw [List.take_of_length_le (by rw [h.1]; exact Nat.le_refl _)] at this
  exact this

/-- 's[lo:]', whatever the address where nothing is left. -/
theorem IsSl.from_ {A A' : Option Addr} {n lo : Nat} (h : IsSl R w S A n l) (h1 : lo ≤ n) (hA : lo < n → ∀ b off, A = some ⟨b, off, none⟩ → A' = some ⟨b, off + lo * R.size, none⟩) :
    IsSl R w S A' (n - lo) (l.drop lo) := by
  rcases Nat.lt_or_ge lo n with hlt | hge
  · obtain ⟨b, off, _, _, rfl, _⟩ := h.at_ hlt
    have := h.cut (lo := lo) h1 (Nat.le_refl n) (A' := A') (fun _ => by rw [hA hlt b off rfl]; simp [add_none])
    rw [List.take_of_length_le (by rw [h.1]; exact Nat.le_refl _)] at this
    exact this
  · obtain rfl : lo = n := by omega
    rw [List.drop_eq_nil_of_le (by rw [h.1]; exact Nat.le_refl _), Nat.sub_self]
    exact IsSl.nil

/-- 's[:hi]', whatever the address where nothing is left. -/
theorem IsSl.to_ {A A' : Option Addr} {n hi : Nat} (h : IsSl R w S A n l) (h1 : hi ≤ n) (hA : 0 < hi → ∀ b off, A = some ⟨b, off, none⟩ → A' = some ⟨b, off, none⟩) :
    IsSl R w S A' hi (l.take hi) := by
  rcases Nat.eq_zero_or_pos hi with h0 | h0
  · subst h0
    rw [List.take_zero]
    exact IsSl.nil
  · obtain ⟨b, off, _, _, rfl, _⟩ := h.at_ (k := 0) (by omega)
    rw [hA h0 b off rfl]
    exact h.cutTo h1
end

/-- A type without pointers. -/
def Flat {α : Type} (R : Rep α) : Prop := ∀ (w w' : World) (S S' : Nat → Prop) (a : α) (cs : List Value), R.rel w S a cs → R.rel w' S' a cs

/-! ### A slice that the call owns -/
/-- v is a slice that owns its elements' row (or one without elements and without room): elements of l; its row lies from base on; S has what the elements lead to: none of it in that row. -/
def Own {α : Type} (R : Rep α) (w : World) (base : Nat) (S : Nat → Prop) (e : TypeId) (v : Value) (l : List α) : Prop :=
  (∀ b, S b → b < w.heap.size) ∧
  ((∃ A, v = .slice A 0 0 ∧ l = []) ∨
   ∃ g cap cur xss, v = .slice (some ⟨g, 0, none⟩) l.length cap ∧ base ≤ g ∧ ¬ S g ∧ w.heap[g]? = some (.cells cur e (0, 0)) ∧ l.length ≤ cap ∧ cap ≤ maxLen ∧ cur.size = cap * R.size ∧
     Rows R w S l xss ∧ cur.toList.take (l.length * R.size) = xss.flatten)

/-- The row that an append may write into. -/
def rowOf : Value → Option Nat
  | .slice (some a) _ (_ + 1) => some a.block
  | _ => none

section
variable {α : Type} {R : Rep α} {w w' : World} {S S' : Nat → Prop} {l l' : List α} {base : Nat} {e : TypeId} {v : Value}

theorem Own.form (h : Own R w base S e v l) : ∃ A cap, v = .slice A l.length cap := by
  rcases h.2 with ⟨A, rfl, rfl⟩ | ⟨g, cap, _, _, rfl, _⟩
  · exact ⟨A, 0, rfl⟩
  · exact ⟨_, cap, rfl⟩

theorem Own.form1 (h : Own R w base S e v l) (hl : l ≠ []) : ∃ g cap, v = .slice (some ⟨g, 0, none⟩) l.length cap ∧ base ≤ g ∧ g < w.heap.size ∧ l.length ≤ cap ∧ cap ≤ maxLen := by
  rcases h.2 with ⟨A, rfl, rfl⟩ | ⟨g, cap, cur, _, rfl, hb, _, hh, h1, h2, _⟩
  · exact absurd rfl hl
  · exact ⟨g, cap, rfl, hb, (Array.getElem?_eq_some_iff.1 hh).1, h1, h2⟩

theorem Own.nil (w : World) (base : Nat) (S : Nat → Prop) (hS : ∀ b, S b → b < w.heap.size) (e : TypeId) (A : Option Addr) : Own R w base S e (.slice A 0 0) [] := ⟨hS, .inl ⟨A, rfl, rfl⟩⟩

/-- What is owned reads as a list. -/
theorem Own.isSl (h : Own R w base S e v l) (hb : ∀ b, S b → S' b) (hg : ∀ g, base ≤ g → g < w.heap.size → S' g) : ∃ A cap, v = .slice A l.length cap ∧ l.length ≤ cap ∧ cap ≤ maxLen ∧ IsSl R w S' A l.length l := by
  rcases h.2 with ⟨A, rfl, rfl⟩ | ⟨g, cap, cur, xss, rfl, hbg, hSg, hh, hle, hm, hsz, hr, htake⟩
  · exact ⟨A, 0, rfl, Nat.le_refl _, by simp, IsSl.nil⟩
  · refine ⟨_, cap, rfl, hle, hm, rfl, xss, hr.weak hb, fun _ => ⟨g, 0, rfl, hg g hbg (Array.getElem?_eq_some_iff.1 hh).1, fun j u hu => ?_⟩⟩
    rw [Nat.zero_add, cell_of_row w g j cur e (0, 0) hh]
    rw [← htake, List.getElem?_take] at hu
    split at hu
    · simpa using hu
    · cases hu

/-- .. kept where neither its row nor what its elements lead to is written. -/
theorem Own.kept {row : Option Nat} (h : Own R w base S e v l) (hg : w.grownBy w' row) (hne : ∀ g, row = some g → rowOf v ≠ some g ∧ ¬ S g) : Own R w' base S e v l := by
  have hk : ∀ p : Addr, S p.block → w'.cell? p = w.cell? p := fun p hp => World.cell?_of_block (hg.block p.block (h.1 _ hp) (fun e => (hne _ e.symm).2 hp))
  refine ⟨fun b hb => Nat.lt_of_lt_of_le (h.1 b hb) hg.size, ?_⟩
  rcases h.2 with hn | ⟨g, cap, cur, xss, rfl, hbg, hSg, hh, hle, hm, hsz, hr, htake⟩
  · exact .inl hn
  · have hlt := (Array.getElem?_eq_some_iff.1 hh).1
    by_cases hc : cap = 0
    · subst hc
      have : l = [] := List.eq_nil_of_length_eq_zero (by omega)
      subst this
      exact .inl ⟨_, rfl, rfl⟩
    · refine .inr ⟨g, cap, cur, xss, rfl, hbg, hSg, ?_, hle, hm, hsz, hr.keep hk, htake⟩
      rw [hg.block g hlt ?_]
      · exact hh
      · intro e
        refine (hne _ e.symm).1 ?_
        match cap, hc with
        | c + 1, _ => rfl

theorem Own.alloc (h : Own R w base S e v l) (o : Obj) : Own R (w.alloc o) base S e v l := h.kept (World.grownBy_alloc w o none) (fun _ h => by cases h)

theorem Own.drew (h : Own R w base S e v l) : Own R w.drew base S e v l := h.kept (row := none) ⟨rfl, rfl, rfl, Nat.le_refl _, fun _ _ _ => rfl⟩ (fun _ h => by cases h)

theorem Own.drewN (h : Own R w base S e v l) (n : Nat) : Own R (w.drewN n) base S e v l := h.kept (row := none) ⟨rfl, rfl, rfl, Nat.le_refl _, fun _ _ _ => rfl⟩ (fun _ h => by cases h)

theorem Own.below (h : Own R w base S e v l) (hb : Below w.heap.size w w') : Own R w' base S e v l :=
  h.kept (row := none) ⟨hb.os, hb.tape, hb.output, hb.size, fun k hk _ => hb.block k hk⟩ (fun _ h => by cases h)

theorem Own.row_ge (h : Own R w base S e v l) {g : Nat} (hg : rowOf v = some g) : base ≤ g := by
  rcases h.2 with ⟨A, rfl, rfl⟩ | ⟨g', cap, cur, xss, rfl, hbg, _⟩
  · cases A <;> simp [rowOf] at hg
  · cases cap with
    | zero => simp [rowOf] at hg
    | succ c =>
      simp [rowOf] at hg
      omega

theorem Own.mono {base' : Nat} (h : Own R w base S e v l) (hb : base' ≤ base) : Own R w base' S e v l := by
  refine ⟨h.1, ?_⟩
  rcases h.2 with hn | ⟨g, cap, cur, xss, hv, hbg, r⟩
  · exact .inl hn
  · exact .inr ⟨g, cap, cur, xss, hv, Nat.le_trans hb hbg, r⟩

/-- The cells of a row that is owned. -/
theorem Own.cellAt {g n cap k j : Nat} {a : α} (h : Own R w base S e (.slice (some ⟨g, 0, none⟩) n cap) l) (ha : l[k]? = some a) (hj : j < R.size) :
    ∃ cs u, R.rel w S a cs ∧ cs[j]? = some u ∧ w.cell? ⟨g, k * R.size + j, none⟩ = some u ∧ w.frozen? ⟨g, k * R.size + j, none⟩ = false := by
  rcases h.2 with ⟨A, hv, rfl⟩ | ⟨g', cap', cur, xss, hv, hbg, hSg, hh, hle, hm, hsz, hr, htake⟩
  · simp at ha
  · injection hv with hA hn hc
    injection hA with hA
    injection hA with hg _ _
    subst hg
    have hk : k < xss.length := by rw [hr.1]; exact (List.getElem?_eq_some_iff.1 ha).1
    have hrel := hr.2 k a xss[k] ha (List.getElem?_eq_getElem hk)
    have hlen := R.len hrel
    refine ⟨xss[k], xss[k][j]'(by omega), hrel, List.getElem?_eq_getElem _, ?_, ?_⟩
    · have h1 := flatten_at hr.lens (List.getElem?_eq_getElem hk) hj
      rw [← htake, List.getElem?_take] at h1
      rw [cell_of_row w g _ cur e (0, 0) hh]
      split at h1
      · rw [← Array.getElem?_toList, h1]
        exact List.getElem?_eq_getElem _
      · rw [List.getElem?_eq_getElem (by omega)] at h1
        cases h1
    · exact frozen_of_row w g _ cur e hh

theorem flatten_set {size : Nat} : ∀ {xss : List (List Value)} (_ : ∀ cs ∈ xss, cs.length = size) {k j : Nat} {cs : List Value} (u : Value), xss[k]? = some cs → j < size → (xss.set k (cs.set j u)).flatten = xss.flatten.set (k * size + j) u
  | [], _, _, _, _, _, hk, _ => by simp at hk
  | c :: r, h, 0, j, cs, u, hk, hj => by
    obtain rfl : c = cs := by simpa using hk
    have hc := h c (List.mem_cons_self ..)
    rw [List.set_cons_zero, List.flatten_cons, List.flatten_cons, Nat.zero_mul, Nat.zero_add, List.set_append_left _ _ (by omega)]
  | c :: r, h, k + 1, j, cs, u, hk, hj => by
    have hc := h c (List.mem_cons_self ..)
    have ih := flatten_set (xss := r) (fun c hc => h c (List.mem_cons_of_mem _ hc)) (k := k) u (by simpa using hk) hj
    rw [List.set_cons_succ, List.flatten_cons, List.flatten_cons, ih, List.set_append_right _ _ (by rw [hc, Nat.add_mul]; omega), hc]
    congr 2
    rw [Nat.add_mul]
    omega

/-- A cell of a row that is owned is written: one element is another one. -/
theorem Own.store {g n cap k j : Nat} {a a' : α} {cs : List Value} {u : Value} (hf : Flat R) (h : Own R w base S e (.slice (some ⟨g, 0, none⟩) n cap) l) (ha : l[k]? = some a)
    (hcs : ∀ cs0, R.rel w S a cs0 → cs0 = cs) (hj : j < R.size) (ha' : R.rel w S a' (cs.set j u)) : Own R (w.setCell ⟨g, k * R.size + j, none⟩ u) base S e (.slice (some ⟨g, 0, none⟩) n cap) (l.set k a') := by
  refine ⟨fun b hb => by simpa using h.1 b hb, ?_⟩
  rcases h.2 with ⟨A, hv, rfl⟩ | ⟨g', cap', cur, xss, hv, hbg, hSg, hh, hle, hm, hsz, hr, htake⟩
  · simp at ha
  · injection hv with hA hn hc
    injection hA with hA
    injection hA with hg _ _
    subst hg
    subst hn
    subst hc
    have hkl : k < l.length := (List.getElem?_eq_some_iff.1 ha).1
    have hk : k < xss.length := by rw [hr.1]; exact hkl
    have hrel := hr.2 k a xss[k] ha (List.getElem?_eq_getElem hk)
    have hcs' := hcs _ hrel
    refine .inr ⟨g, cap, cur.setIfInBounds (k * R.size + j) u, xss.set k (cs.set j u), by rw [List.length_set], hbg, hSg, ?_, by rw [List.length_set]; exact hle, hm, by rw [Array.size_setIfInBounds]; exact hsz, ⟨by simp [hr.1], ?_⟩, ?_⟩
    · simp [World.setCell, Array.getElem?_modify, hh]
    · intro i b ds hb hd
      by_cases hik : k = i
      · subst hik
        rw [List.getElem?_set_self (by omega)] at hb hd
        injection hb with hb
        injection hd with hd
        subst hb hd
        exact hf _ _ _ _ _ _ ha'
      · rw [List.getElem?_set_ne hik] at hb hd
        exact hf _ _ _ _ _ _ (hr.2 i b ds hb hd)
    · rw [flatten_set hr.lens u (by rw [← hcs']; exact List.getElem?_eq_getElem hk) hj, ← htake, Array.toList_setIfInBounds, List.length_set, List.take_set]

/-- More room for what the elements lead to: whatever is not in the row. -/
theorem Own.weak (h : Own R w base S e v l) (hS : ∀ b, S b → S' b) (hlt : ∀ b, S' b → b < w.heap.size) (hne : ∀ g, rowOf v = some g → ¬ S' g) : Own R w base S' e v l := by
  refine ⟨hlt, ?_⟩
  rcases h.2 with hn | ⟨g, cap, cur, xss, rfl, hbg, hSg, hh, hle, hm, hsz, hr, htake⟩
  · exact .inl hn
  · by_cases hc : cap = 0
    · subst hc
      have : l = [] := List.eq_nil_of_length_eq_zero (by omega)
      subst this
      exact .inl ⟨_, rfl, rfl⟩
    · refine .inr ⟨g, cap, cur, xss, rfl, hbg, hne g ?_, hh, hle, hm, hsz, hr.weak hS, htake⟩
      match cap, hc with
      | c + 1, _ => rfl

/-- What may be appended: elements whose cells lie wherever, and lead to S alone. -/
def Src (R : Rep α) (w : World) (S : Nat → Prop) (A : Option Addr) (m : Nat) (l : List α) : Prop :=
  m = l.length ∧ ∃ xss, Rows R w S l xss ∧ Cellz w (fun _ => True) A xss.flatten

theorem IsSl.src {A : Option Addr} {n : Nat} (h : IsSl R w S A n l) (hS : ∀ b, S b → S' b) : Src R w S' A n l := by
  obtain ⟨h1, xss, h2, h3⟩ := h
  exact ⟨h1, xss, h2.weak hS, h3.weak fun _ _ => trivial⟩

/-- One element, just laid into a block of its own. -/
theorem Src.one {a : α} {cs : List Value} {g : Nat} (h : R.rel w S a cs) (hc : ∀ j u, cs[j]? = some u → w.cell? ⟨g, j, none⟩ = some u) : Src R w S (some ⟨g, 0, none⟩) 1 [a] :=
  ⟨rfl, [cs], Rows.single h, fun _ => ⟨g, 0, rfl, trivial, fun j u hu => by rw [Nat.zero_add]; exact hc j u (by simpa using hu)⟩⟩

/-- .. in a block that has just been made. -/
theorem Src.new {a : α} {cs : List Value} (h : R.rel (w.alloc (.cells cs.toArray e)) S a cs) : Src R (w.alloc (.cells cs.toArray e)) S (some ⟨w.heap.size, 0, none⟩) 1 [a] :=
  Src.one h fun j u hu => by rw [World.cell?_alloc_at _ _ _ _ rfl]; simpa using hu

theorem Rows.flat {xss : List (List Value)} (hf : Flat R) (h : Rows R w S l xss) : Rows R w' S' l xss := ⟨h.1, fun k a cs ha hc => hf _ _ _ _ _ _ (h.2 k a cs ha hc)⟩

/-- A list that lies in memory of before, appended from. -/
theorem IsSl.srcF {A : Option Addr} {n B : Nat} (hf : Flat R) (h : IsSl R w (· < B) A n l) (hb : Below B w w') : Src R w' S A n l := by
  obtain ⟨h1, xss, h2, h3⟩ := h
  exact ⟨h1, xss, h2.flat hf, (h3.keep (fun _ hp => hb.cell hp)).weak fun _ _ => trivial⟩

theorem Src.nil {A : Option Addr} : Src R w S A 0 [] := ⟨rfl, [], Rows.nil, Cellz.nil⟩

end

section
variable {α : Type} {R : Rep α} {P : Program} (w : World) {S : Nat → Prop} {l l' : List α}

theorem cellz_addr {A : Option Addr} {xs : List Value} (h : Cellz w (fun _ => True) A xs) (hn : xs ≠ []) : ∃ a, A = some a ∧ ∀ j u, xs[j]? = some u → w.cell? (a.add j) = some u := by
  obtain ⟨b, off, rfl, _, hc⟩ := h hn
  exact ⟨_, rfl, fun j u hu => by rw [add_none]; exact hc j u hu⟩

theorem growBy_le (n : Nat) : ∀ (r c : Nat), Builtin.growBy n r c ≤ max c (n + n / 4 + 192)
  | 0, c => by unfold Builtin.growBy; omega
  | r + 1, c => by
    unfold Builtin.growBy
    split
    · omega
    · have := growBy_le n r (c + (c + 768) / 4)
      omega

theorem nextslicecap_fine {need old : Nat} (h : old < need) : Builtin.nextslicecap need old ≤ need + need / 4 + 512 := by
  unfold Builtin.nextslicecap
  split
  · omega
  · split
    · omega
    · have := growBy_le need 4 old
      omega

/-- What an append of so many bytes owes. -/
theorem grow_fits {need old bytes : Nat} (h : old < need) (hb : need * bytes ≤ 211106232532992) (h1 : bytes ≤ 65536) : Builtin.nextslicecap need old * bytes ≤ 281474976710656 := by
  have h2 := nextslicecap_fine h
  have h3 : Builtin.nextslicecap need old * bytes ≤ (need + need / 4 + 512) * bytes := Nat.mul_le_mul_right _ h2
  have h4 : need / 4 * bytes ≤ need * bytes / 4 := by
    rw [Nat.le_div_iff_mul_le (by omega)]
    have : need / 4 * 4 ≤ need := Nat.div_mul_le_self need 4
    calc need / 4 * bytes * 4 = (need / 4 * 4) * bytes := by rw [Nat.mul_right_comm]
      _ ≤ need * bytes := Nat.mul_le_mul_right _ this
  rw [Nat.add_mul, Nat.add_mul] at h3
  omega

/-- append onto what the call owns. -/
theorem run_append_Own (base : Nat) (t ty e : TypeId) (i : TypeInfo) (z : Value) (bytes : Nat) (ht : P.underlying t = some (.slice e)) (hi : P.info? e = some i) (hz : i.zero = some z)
    (hsize : i.size = R.size) (hby : i.bytes = bytes) (hzs : z.cells.size = R.size)
    (v : Value) (hown : Own R w base S e v l) (A : Option Addr) (m c : Nat) (hsrc : Src R w S A m l')
    (h63 : l.length + m ≤ maxLen) (hbytes : (l.length + m) * bytes ≤ 211106232532992) (hb1 : bytes ≤ 65536) (hbase : base ≤ w.heap.size) :
    ∃ v' w', (Builtin.append_ #[t, t] ty #[v, .slice A m c]).run P w = .ok v' w' ∧ Own R w' base S e v' (l ++ l') ∧ w.grownBy w' (rowOf v) ∧
      (v' = v ∨ rowOf v' = rowOf v ∨ rowOf v' = some w.heap.size) := by
  obtain ⟨rfl, ys, hr', hc'⟩ := hsrc
  have hp := R.pos
  have hlen' : ys.flatten.length = l'.length * R.size := hr'.flat_len
  by_cases hm : l'.length = 0
  · -- nothing is appended
    have : l' = [] := List.eq_nil_of_length_eq_zero hm
    subst this
    have hys : ys = [] := List.eq_nil_of_length_eq_zero hr'.1
    subst hys
    refine ⟨v, w, ?_, by simpa using hown, World.grownBy.refl w _, .inl rfl⟩
    have hf : ∀ w0 : World, (Builtin.firstCells i.size 0 (.slice A 0 c)).run P w0 = .ok #[] w0 := by
      intro w0
      cases A with
      | none => simp [Builtin.firstCells]
      | some a => simp [Builtin.firstCells, loadCells, loadCellsFrom]
    rcases hown.2 with ⟨B, rfl, rfl⟩ | ⟨g, cap, cur, xss, rfl, _, _, _, hle, _⟩
    · cases B <;> simp [Builtin.append_, run_underlying ht, sizeOf, typeInfo, hi, Builtin.lenOf, hf, storeCells]
    · simp [Builtin.append_, run_underlying ht, sizeOf, typeInfo, hi, Builtin.lenOf, hf, storeCells, hle]
  · have hne : ys.flatten ≠ [] := by
      intro e0
      rw [e0, List.length_nil] at hlen'
      have : 0 < l'.length * R.size := Nat.mul_pos (by omega) hp
      omega
    obtain ⟨ad, rfl, hcells⟩ := cellz_addr w hc' hne
    have hl0 : 0 < l'.length := by omega
    have hsmall : l.length + l'.length ≤ 9223372036854775807 := by simp only [maxLen] at h63; omega
    subst hby
    have grown : ∀ (xss : List (List Value)) (hx : Rows R w S l xss) (old : Nat) (hold : l.length ≤ old), old < l.length + l'.length →
        Own R (w.drew.alloc (.cells (xss.flatten.toArray ++ ys.flatten.toArray ++ Builtin.zeroCells z.cells (grownCap w (l.length + l'.length) old e - (l.length + l'.length))) e)) base S e
          (.slice (some ⟨w.heap.size, 0, none⟩) (l.length + l'.length) (grownCap w (l.length + l'.length) old e)) (l ++ l') := by
      intro xss hx old hold ho
      have hge := grownCap_ge w (l.length + l'.length) old e
      have hcm : grownCap w (l.length + l'.length) old e ≤ maxLen := grownCap_le_maxLen w (l.length + l'.length) old e h63
      have hlx := hx.flat_len
      have hk : ∀ (o : Obj) (p : Addr), S p.block → (w.drew.alloc o).cell? p = w.cell? p := fun o p hp => World.cell?_of_block (Below.heap_alloc w.drew o p.block (hown.1 _ hp))
      refine ⟨fun b hb => by have := hown.1 b hb; simp; omega, .inr ⟨w.heap.size, _, _, xss ++ ys, by rw [List.length_append], hbase, fun hS => Nat.lt_irrefl _ (hown.1 _ hS), heap_alloc_new w.drew _, by rw [List.length_append]; exact hge, hcm, ?_, ((hx.keep (hk _)).append (hr'.keep (hk _))), ?_⟩⟩
      · simp only [Array.size_append, List.size_toArray, size_zeroCells, hzs, hlx, hlen', ← Nat.add_mul]
        congr 1
        omega
      · simp only [Array.toList_append, List.append_assoc, List.flatten_append, List.length_append, Nat.add_mul]
        rw [← hlx, ← hlen', ← List.length_append, ← List.append_assoc]
        exact List.take_left
    have gby : ∀ (o : Obj), w.grownBy (w.drew.alloc o) (rowOf v) := fun o => ⟨rfl, rfl, rfl, by simp, fun k hk _ => Below.heap_alloc w.drew o k hk⟩
    have hcap : ∀ (old : Nat), ∃ c', grownCap w (l.length + l'.length) old e = c' + 1 := by
      intro old
      have := grownCap_ge w (l.length + l'.length) old e
      exact ⟨grownCap w (l.length + l'.length) old e - 1, by omega⟩
    rcases hown.2 with ⟨B, rfl, rfl⟩ | ⟨g, cap, cur, xss, rfl, hbg, hSg, hg, hnc, hcm, hcs, hr, htake⟩
    · have hgr := grown [] Rows.nil 0 (by simp) (by simpa using hl0)
      simp only [List.length_nil, Nat.zero_add, List.nil_append, List.flatten_nil] at hgr hbytes h63 ⊢
      cases B with
      | none =>
        have hrun := run_append_nil (P := P) w t ty e i z ht hi hz ad l'.length c ys.flatten (by rw [hlen', hsize]) hcells hl0 (by simp at hsmall; omega) (by omega)
        refine ⟨_, _, hrun, by simpa using hgr, gby _, ?_⟩
        obtain ⟨c', hc''⟩ := hcap 0
        simp only [List.length_nil, Nat.zero_add] at hc''
        right; right
        rw [hc'']
        rfl
      | some b =>
        have hrun := run_append_grow (P := P) w t ty e i z ht hi hz b 0 0 [] (by simp) (by simp) ad l'.length c ys.flatten (by rw [hlen', hsize]) hcells (by omega) (by simp at hsmall; omega)
          (by rw [Nat.zero_add, nextslicecap_zero hl0]; omega)
        simp only [Nat.zero_add] at hrun
        refine ⟨_, _, hrun, by simpa using hgr, gby _, ?_⟩
        obtain ⟨c', hc''⟩ := hcap 0
        simp only [List.length_nil, Nat.zero_add] at hc''
        right; right
        rw [hc'']
        rfl
    · have hlx := hr.flat_len
      by_cases hroom : l.length + l'.length ≤ cap
      · have hfit : l.length * i.size + ys.flatten.length ≤ cur.size := by rw [hlen', hcs, hsize, ← Nat.add_mul]; exact Nat.mul_le_mul_right _ hroom
        have hrun := run_append_room (P := P) w t ty e i ht hi g l.length cap cur hg ad l'.length c ys.flatten (by rw [hlen', hsize]) hcells hr'.ones hroom hfit
        have hk : ∀ (cs : Array Value) (p : Addr), S p.block → (w.setRow g cs).cell? p = w.cell? p := fun cs p hp => World.cell?_of_block (setRow_other w g p.block cs (fun e0 => hSg (e0 ▸ hp)))
        have hrow : rowOf (.slice (some ⟨g, 0, none⟩) l.length cap) = some g := by
          cases cap with
          | zero => omega
          | succ c0 => rfl
        refine ⟨_, _, hrun, ⟨fun b hb => by rw [size_setRow]; exact hown.1 b hb, .inr ⟨g, cap, _, xss ++ ys, by rw [List.length_append], hbg, hSg, setRow_heap w g cur _ e _ hg, by rw [List.length_append]; exact hroom, hcm, ?_, (hr.keep (hk _)).append (hr'.keep (hk _)), ?_⟩⟩, ?_, ?_⟩
        · simp only [List.size_toArray, List.length_append, List.length_take, List.length_drop, Array.length_toList]
          omega
        · rw [hsize, htake, List.length_append, Nat.add_mul, ← hlx, ← hlen', List.flatten_append, ← List.length_append]
          exact List.take_left
        · rw [hrow]
          exact ⟨rfl, rfl, rfl, by simp, fun k _ hk0 => setRow_other w g k _ (fun e0 => hk0 (by rw [e0]))⟩
        · right; left
          cases cap with
          | zero => omega
          | succ c0 => rfl
      · have holds : ∀ j u, xss.flatten[j]? = some u → w.cell? ((⟨g, 0, none⟩ : Addr).add j) = some u := by
          intro j u hu
          rw [add_none, Nat.zero_add, cell_of_row w g j cur e (0, 0) hg]
          rw [← htake, List.getElem?_take] at hu
          split at hu
          · simpa using hu
          · cases hu
        have hrun := run_append_grow (P := P) w t ty e i z ht hi hz ⟨g, 0, none⟩ l.length cap xss.flatten (by rw [hlx, hsize]) holds ad l'.length c ys.flatten (by rw [hlen', hsize]) hcells (by omega) (by omega) (grow_fits (by omega) hbytes hb1)
        refine ⟨_, _, hrun, grown xss hr cap hnc (by omega), gby _, ?_⟩
        obtain ⟨c', hc''⟩ := hcap cap
        right; right
        rw [hc'']
        rfl

theorem wp_append_Own {o : Oper} {a : Act} {K : Act → World → Prop} {Q : Exit → Act → World → Prop} (s x : Operand) (t : TypeId)
    (ho : o.op = .call { callee := .builtin .append, args := #[s, x], argTypes := #[t, t] })
    (base : Nat) (e : TypeId) (i : TypeInfo) (z : Value) (bytes : Nat) (ht : P.underlying t = some (.slice e)) (hi : P.info? e = some i) (hz : i.zero = some z)
    (hsize : i.size = R.size) (hby : i.bytes = bytes) (hzs : z.cells.size = R.size)
    (v : Value) (hs : a.eval s = v) (hown : Own R w base S e v l) (A : Option Addr) (m c : Nat) (hx : a.eval x = .slice A m c) (hsrc : Src R w S A m l')
    (h63 : l.length + m ≤ maxLen) (hbytes : (l.length + m) * bytes ≤ 211106232532992) (hb1 : bytes ≤ 65536) (hbase : base ≤ w.heap.size)
    (h : ∀ v' w', Own R w' base S e v' (l ++ l') → w.grownBy w' (rowOf v) → (v' = v ∨ rowOf v' = rowOf v ∨ rowOf v' = some w.heap.size) → K (a.put o.dst v') w') : o.wp P a w K Q := by
  obtain ⟨v', w', hr, h2, h3, h4⟩ := run_append_Own (P := P) w base t o.type e i z bytes ht hi hz hsize hby hzs v hown A m c hsrc h63 hbytes hb1 hbase
  unfold Oper.wp execOp
  simp only [ho, resolve, invoke, builtin, Sem.run_bind, Sem.run_pure, Result.andThen_ok, List.map_toArray, List.map_cons, List.map_nil, hs, hx, hr]
  exact h v' w' h2 h3 h4

theorem wpList_append_Own {ops : Array Oper} {rest : List Oper} {o : Oper} {a : Act} {Q : Exit → Act → World → Prop} (hgd : o.guard = none) (s x : Operand) (t : TypeId)
    (ho : o.op = .call { callee := .builtin .append, args := #[s, x], argTypes := #[t, t] })
    (base : Nat) (e : TypeId) (i : TypeInfo) (z : Value) (bytes : Nat) (ht : P.underlying t = some (.slice e)) (hi : P.info? e = some i) (hz : i.zero = some z)
    (hsize : i.size = R.size) (hby : i.bytes = bytes) (hzs : z.cells.size = R.size)
    (v : Value) (hs : a.eval s = v) (hown : Own R w base S e v l) (A : Option Addr) (m c : Nat) (hx : a.eval x = .slice A m c) (hsrc : Src R w S A m l')
    (h63 : l.length + m ≤ maxLen) (hbytes : (l.length + m) * bytes ≤ 211106232532992) (hb1 : bytes ≤ 65536) (hbase : base ≤ w.heap.size)
    (h : ∀ v' w', Own R w' base S e v' (l ++ l') → w.grownBy w' (rowOf v) → (v' = v ∨ rowOf v' = rowOf v ∨ rowOf v' = some w.heap.size) → wpList P ops Q rest (a.put o.dst v') w') : wpList P ops Q (o :: rest) a w :=
  wpList_plain hgd fun _ hK => wp_append_Own w s x t ho base e i z bytes ht hi hz hsize hby hzs v hs hown A m c hx hsrc h63 hbytes hb1 hbase fun v' w' h2 h3 h4 => hK _ _ (h v' w' h2 h3 h4)
end

section
variable {α : Type} {R : Rep α} {P : Program} (w : World) {S : Nat → Prop} {l l' : List α}

/-- At a step of a region that draws its order. -/
theorem step_append_Own {ops : Array Oper} {o : Oper} {a : Act} {K : Act → World → Prop} {Q : Exit → Act → World → Prop} {E : Prop} (hgd : o.guard = none) (s x : Operand) (t : TypeId)
    (ho : o.op = .call { callee := .builtin .append, args := #[s, x], argTypes := #[t, t] })
    (base : Nat) (e : TypeId) (i : TypeInfo) (z : Value) (bytes : Nat) (ht : P.underlying t = some (.slice e)) (hi : P.info? e = some i) (hz : i.zero = some z)
    (hsize : i.size = R.size) (hby : i.bytes = bytes) (hzs : z.cells.size = R.size)
    (v : Value) (hs : a.eval s = v) (hown : Own R w base S e v l) (A : Option Addr) (m c : Nat) (hx : a.eval x = .slice A m c) (hsrc : Src R w S A m l')
    (h63 : l.length + m ≤ maxLen) (hbytes : (l.length + m) * bytes ≤ 211106232532992) (hb1 : bytes ≤ 65536) (hbase : base ≤ w.heap.size)
    (h : ∀ v' w', Own R w' base S e v' (l ++ l') → w.grownBy w' (rowOf v) → (v' = v ∨ rowOf v' = rowOf v ∨ rowOf v' = some w.heap.size) → K (a.put o.dst v') w') : if Region.wanted o (yielded ops a.tmps) = true then Oper.wp P o a w K Q else E := by
  have hw : Region.wanted o (yielded ops a.tmps) = true := by simp [Region.wanted, hgd]
  rw [if_pos hw]
  exact wp_append_Own w s x t ho base e i z bytes ht hi hz hsize hby hzs v hs hown A m c hx hsrc h63 hbytes hb1 hbase h
end

/-! ### A slice as a cell of something else -/
def sliceRep {α : Type} (R : Rep α) : Rep (List α) where
  size := 1
  pos := by omega
  rel := fun w S l cs => ∃ A n c, cs = [.slice A n c] ∧ IsSl R w S A n l ∧ n ≤ c ∧ c ≤ maxLen
  len := by rintro w S a cs ⟨A, n, c, rfl, _⟩; rfl
  one := by rintro w S a cs ⟨A, n, c, rfl, _⟩ u hu; simp at hu; subst hu; rfl
  keep := by rintro w w' S a cs ⟨A, n, c, rfl, h, hc⟩ hk; exact ⟨A, n, c, rfl, h.keep hk, hc⟩
  weak := by rintro w S S' a cs ⟨A, n, c, rfl, h, hc⟩ hk; exact ⟨A, n, c, rfl, h.weak hk, hc⟩

theorem Below.grown' {B : Nat} {a w w' : World} {row : Option Nat} (h : Below B a w) (hg : w.grownBy w' row) (hB : B ≤ w.heap.size) (hr : ∀ k, row = some k → B ≤ k) : Below B a w' := h.grown hg hB hr

/-! ### What appends onto one slice, one behind the other, leave -/
/-- From w to w' only v's own row and new blocks have been written; v' lies in v's row or in a new one. -/
def Appended (w w' : World) (v v' : Value) : Prop := w.grownBy w' (rowOf v) ∧ ∀ g, rowOf v' = some g → rowOf v = some g ∨ w.heap.size ≤ g

theorem Appended.refl (w : World) (v : Value) : Appended w w v v := ⟨World.grownBy.refl w _, fun _ h => .inl h⟩

theorem Appended.trans {w w' w'' : World} {v v' v'' : Value} (h : Appended w w' v v') (h' : Appended w' w'' v' v'') : Appended w w'' v v'' := by
  refine ⟨⟨h'.1.os.trans h.1.os, h'.1.tape.trans h.1.tape, h'.1.output.trans h.1.output, Nat.le_trans h.1.size h'.1.size, fun k hk hr => ?_⟩, fun g hg => ?_⟩
  · refine (h'.1.block k (Nat.lt_of_lt_of_le hk h.1.size) fun e => ?_).trans (h.1.block k hk hr)
    rcases h.2 k e.symm with h1 | h1
    · exact hr h1.symm
    · omega
  · rcases h'.2 g hg with h1 | h1
    · exact h.2 g h1
    · exact .inr (Nat.le_trans h.1.size h1)

/-- One append. -/
theorem Appended.one {w w' : World} {v v' : Value} (h : w.grownBy w' (rowOf v)) (ha : v' = v ∨ rowOf v' = rowOf v ∨ rowOf v' = some w.heap.size) : Appended w w' v v' := by
  refine ⟨h, fun g hg => ?_⟩
  rcases ha with rfl | ha | ha
  · exact .inl hg
  · exact .inl (ha ▸ hg)
  · rw [ha] at hg; injection hg with hg; exact .inr (by omega)

/-- A step that only makes memory. -/
theorem Appended.below {w w' : World} (v : Value) (h : Below w.heap.size w w') : Appended w w' v v := ⟨⟨h.os, h.tape, h.output, h.size, fun k hk _ => h.block k hk⟩, fun _ hg => .inl hg⟩

theorem Appended.alloc {w w' : World} {v v' : Value} {o : Obj} (h : Appended (w.alloc o) w' v v') : Appended w w' v v' :=
  (Appended.below v ((Below.refl w.heap.size w).alloc (Nat.le_refl _) o)).trans h

theorem Appended.cell {w w' : World} {v v' : Value} (h : Appended w w' v v') {b j : Nat} (hb : b < w.heap.size) (hr : rowOf v ≠ some b) : w'.cell? ⟨b, j, none⟩ = w.cell? ⟨b, j, none⟩ :=
  World.cell?_of_block (h.1.block b hb fun e => hr e.symm)

theorem Appended.row {w w' : World} {v v' : Value} (h : Appended w w' v v') {b : Nat} (hb : b < w.heap.size) (hr : rowOf v ≠ some b) : rowOf v' ≠ some b := by
  intro e
  rcases h.2 b e with h1 | h1
  · exact hr h1
  · omega

theorem Appended.isBelow {B : Nat} {a w w' : World} {v v' : Value} (h : Below B a w) (hg : Appended w w' v v') (hB : B ≤ w.heap.size) (hr : ∀ k, rowOf v = some k → B ≤ k) : Below B a w' := h.grown hg.1 hB hr

theorem Own.row_lt {α : Type} {R : Rep α} {w : World} {base : Nat} {S : Nat → Prop} {e : TypeId} {v : Value} {l : List α} (h : Own R w base S e v l) {g : Nat} (hg : rowOf v = some g) : g < w.heap.size := by
  rcases h.2 with ⟨A, rfl, _⟩ | ⟨g', cap, cur, xss, rfl, _, _, hh, _⟩
  · simp [rowOf] at hg
  · cases cap with
    | zero => simp [rowOf] at hg
    | succ c =>
      simp [rowOf] at hg
      subst hg
      rcases Nat.lt_or_ge g' w.heap.size with h1 | h1
      · exact h1
      · rw [Array.getElem?_eq_none h1] at hh; cases hh

end Go.Proofs.Ythhpddiicnjmmaa
