/- How what a law is handed (a reading of its arguments) is opened into typed lists: integers, bools, strings, structs of one-cell fields, slices of whatever. Holds over every program. -/
import Derived.Test.YthhpddiicnjmmaaMem
import Derived.ProofKit
import Derived.OpenShut
import Derived.ShutString
import Derived.ChangeOld
import Derived.Deep.Slices
import Derived.Deep.Fields
import Derived.SizedLaws
namespace Go.Proofs.Ythhpddiicnjmmaa
open Go.ChangeShapes Go.WideShapes Go.ChangeAt Go.RowKit Go.Deep

section
variable {H : Type} {enc : TypeId × Value → H} {P : Program} {w : World}

/-- Whatever reads as a datum at that type represents a value. -/
def Opens {α : Type} (enc : TypeId × Value → H) (P : Program) (w : World) (t : TypeId) (R : Rep α) : Prop :=
  ∀ (fuel : Nat) (cs : List Value) (x : DataW H × List MemPlace), DataW.trod enc P w 0 (fun _ => true) true fuel t cs = some x → ∃ a, R.rel w (· < w.heap.size) a cs

theorem list_nth {α : Type} {R : Rep α} {n : Nat} {S : Nat → Prop} (f : Nat → List Value) (h : ∀ i, i < n → ∃ a, R.rel w S a (f i)) : ∃ l : List α, l.length = n ∧ Rows R w S l ((List.range n).map f) := by
  induction n with
  | zero => exact ⟨[], rfl, by simp [Rows.nil]⟩
  | succ n ih =>
    obtain ⟨l, hl, hr⟩ := ih (fun i hi => h i (by omega))
    obtain ⟨a, ha⟩ := h n (by omega)
    refine ⟨l ++ [a], by simp [hl], ?_⟩
    rw [List.range_succ, List.map_append]
    exact hr.append (Rows.single ha)

theorem Opens.slice {α : Type} {R : Rep α} {t e : TypeId} (ht : P.underlying t = some (.slice e)) (hC : P.cellsOf e = R.size) (he : Opens enc P w e R) : Opens enc P w t (sliceRep R) := by
  intro fuel cs x h
  rcases open_slice ht h with ⟨rfl, _⟩ | ⟨a, len, cap, m, n, D, Pl, rfl, _, hl, hm, hmm, _, hi⟩
  · exact ⟨[], none, 0, 0, rfl, IsSl.nil, Nat.le_refl _, Nat.zero_le _⟩
  · obtain rfl : m = cap := by simpa using hmm
    rw [hC] at hi
    have hi' : ∀ i, i < len → ∃ cs', w.cells? 0 (a.add (i * R.size)) R.size = some cs' ∧ ∃ x, R.rel w (· < w.heap.size) x cs' := by
      intro i h1
      obtain ⟨cs', h2, h3⟩ := hi i (by omega)
      exact ⟨cs', h2, he _ _ _ h3⟩
    obtain ⟨f, hf⟩ := choose_lt (α := List Value) hi'
    obtain ⟨l, hll, hrows⟩ := list_nth (R := R) (w := w) f (fun i h1 => (hf i h1).2)
    refine ⟨l, some a, len, m, rfl, ⟨hll.symm, (List.range len).map f, hrows, ?_⟩, hl, hm⟩
    intro hne
    have hfl := hrows.flat_len
    have hlen : 0 < len := by
      rcases Nat.eq_zero_or_pos len with h0 | h0
      · subst h0; simp at hne
      · exact h0
    have hp := R.pos
    obtain ⟨_, _, hat0⟩ := World.cells?_some (hf 0 hlen).1
    have h00 := hat0 0 hp
    have hl0 := R.len (hf 0 hlen).2.choose_spec
    have hcell : w.cell? a = some ((f 0)[0]'(by omega)) := by
      rw [List.getElem?_eq_getElem (by omega)] at h00
      simpa [Addr.add] using h00
    obtain ⟨b, off, spot⟩ := a
    have hspot : spot = none := by simpa using World.cell?_spot hcell
    subst hspot
    refine ⟨b, off, rfl, World.block_lt_of_cell? w _ hcell, fun j u hu => ?_⟩
    have hj : j < len * R.size := by
      have := (List.getElem?_eq_some_iff.1 hu).1
      rw [hfl, hll] at this
      exact this
    have hd : j / R.size < len := (Nat.div_lt_iff_lt_mul hp).2 hj
    have hmod : j % R.size < R.size := Nat.mod_lt _ hp
    have hjj : j = j / R.size * R.size + j % R.size := by
      have := Nat.div_add_mod j R.size
      rw [Nat.mul_comm] at this
      omega
    have hk : ((List.range len).map f)[j / R.size]? = some (f (j / R.size)) := by simp [hd]
    rw [hjj, flatten_at hrows.lens hk hmod] at hu
    obtain ⟨_, _, hat⟩ := World.cells?_some (hf _ hd).1
    have := hat (j % R.size) hmod
    rw [add_none, add_none, hu] at this
    rw [hjj, ← Nat.add_assoc]
    exact this

/-- A value at a type of one cell that is no struct. -/
theorem Opens.value {α : Type} {R : Rep α} {t : TypeId} (h : Opens enc P w t R) {v : Value} {d : DataW H} {p : List MemPlace} (hd : DataW.Trod enc P w 0 (fun _ => true) true t v d p) : ∃ a, R.rel w (· < w.heap.size) a v.cells.toList := by
  obtain ⟨fuel, hf⟩ := hd
  exact h _ _ _ hf

theorem Opens.slice_value {α : Type} {R : Rep α} {t : TypeId} (h : Opens enc P w t (sliceRep R)) {A : Option Addr} {n c : Nat} {d : DataW H} {p : List MemPlace} (hd : DataW.Trod enc P w 0 (fun _ => true) true t (.slice A n c) d p) :
    ∃ l, IsSl R w (· < w.heap.size) A n l ∧ n ≤ c ∧ c ≤ maxLen := by
  obtain ⟨l, A', n', c', he, hs, h1, h2⟩ := h.value hd
  simp [Value.cells] at he
  obtain ⟨rfl, rfl, rfl⟩ := he
  exact ⟨l, hs, h1, h2⟩

/-- The datum of a slice has as many elements as the slice. -/
theorem slice_datum {t e : TypeId} (ht : P.underlying t = some (.slice e)) {A : Option Addr} {n c : Nat} {d : DataW H} {p : List MemPlace} (hd : DataW.Trod enc P w 0 (fun _ => true) true t (.slice A n c) d p) :
    (d = .nil ∧ n = 0 ∧ c = 0) ∨ ∃ es sp, d = .slice es sp ∧ es.length = n ∧ es.length + sp.length = c := by
  obtain ⟨fuel, hf⟩ := hd
  rcases open_slice ht hf with ⟨hcs, hx⟩ | ⟨a, len, cap, m, k, D, Pl, hcs, _, hl, hm, hmm, hx, _⟩
  · simp [Value.cells] at hcs
    exact .inl ⟨by simpa using (congrArg Prod.fst hx), hcs.2.1, hcs.2.2⟩
  · simp [Value.cells] at hcs
    obtain ⟨_, rfl, rfl⟩ := hcs
    refine .inr ⟨_, _, congrArg Prod.fst hx, by simp, ?_⟩
    have : m = c := by simpa using hmm
    simp
    omega
end
end Go.Proofs.Ythhpddiicnjmmaa
