/- A block whose cells are known, and which may be written: how it goes on through calls, allocations and stores. Holds over every program. -/
import Derived.Test.YthhpddiicnjmmaaMem
namespace Go.Proofs.Ythhpddiicnjmmaa
open Go.RowKit

theorem grown_setB (w : World) (p : Addr) (u : Value) : w.grownBy (w.setCell p u) (some p.block) := by
  have h := (Below.refl 0 w).setCell (p := p) (Nat.zero_le _) u
  exact ⟨h.os, h.tape, h.output, h.size, fun k _ hne => Below.heap_setCell w p u k (fun e => hne (by rw [e]))⟩

theorem grown_trans {w w' w'' : World} {r : Option Nat} (h : w.grownBy w' r) (h' : w'.grownBy w'' r) : w.grownBy w'' r :=
  ⟨h'.os.trans h.os, h'.tape.trans h.tape, h'.output.trans h.output, Nat.le_trans h.size h'.size, fun k hk hr => (h'.block k (Nat.lt_of_lt_of_le hk h.size) hr).trans (h.block k hk hr)⟩

theorem grown_of_below {w w' : World} (h : Below w.heap.size w w') (r : Option Nat) : w.grownBy w' r := ⟨h.os, h.tape, h.output, h.size, fun k hk _ => h.block k hk⟩

theorem grown_drew {w w' : World} {r : Option Nat} (h : w.grownBy w' r) : w.grownBy w'.drew r := ⟨h.os, h.tape, h.output, h.size, h.block⟩
theorem grown_drewN {w w' : World} {r : Option Nat} (h : w.grownBy w' r) (n : Nat) : w.grownBy (w'.drewN n) r := ⟨h.os, h.tape, h.output, h.size, h.block⟩

/-- Writes to a block that is not among the old ones do not count. -/
theorem grown_far {w w' w'' : World} {r q : Option Nat} (h : w.grownBy w' r) (h' : w'.grownBy w'' q) (hq : ∀ k, q = some k → w.heap.size ≤ k) : w.grownBy w'' r :=
  ⟨h'.os.trans h.os, h'.tape.trans h.tape, h'.output.trans h.output, Nat.le_trans h.size h'.size, fun k hk hr => (h'.block k (Nat.lt_of_lt_of_le hk h.size) (fun e => by have := hq k e.symm; omega)).trans (h.block k hk hr)⟩

/-- Block b holds these cells, and none is frozen. -/
def Blk (w : World) (b : Nat) (cs : List Value) : Prop := (∀ j u, cs[j]? = some u → w.cell? ⟨b, j, none⟩ = some u) ∧ (∀ j, w.frozen? ⟨b, j, none⟩ = false) ∧ b < w.heap.size

theorem Blk.lt {w : World} {b : Nat} {cs : List Value} (h : Blk w b cs) : b < w.heap.size := h.2.2

theorem Blk.same {w w' : World} {b : Nat} {cs : List Value} (h : Blk w b cs) (hb : w'.heap[b]? = w.heap[b]?) (hs : w.heap.size ≤ w'.heap.size) : Blk w' b cs :=
  ⟨fun j u hu => (World.cell?_of_block (a := ⟨b, j, none⟩) hb).trans (h.1 j u hu), fun j => (World.frozen?_of_block (a := ⟨b, j, none⟩) hb).trans (h.2.1 j), Nat.lt_of_lt_of_le h.2.2 hs⟩

theorem Blk.grown {w w' : World} {b : Nat} {cs : List Value} {row : Option Nat} (h : Blk w b cs) (gr : w.grownBy w' row) (hr : ∀ k, row = some k → b ≠ k) : Blk w' b cs :=
  h.same (gr.block b h.lt (fun e => hr b e.symm rfl)) gr.size

theorem Blk.below {w w' : World} {b : Nat} {cs : List Value} {B : Nat} (h : Blk w b cs) (hb : Below B w w') (hB : b < B) : Blk w' b cs := h.same (hb.block b hB) hb.size

theorem Blk.after {w w' : World} {b : Nat} {cs : List Value} (h : Blk w b cs) (hb : Below w.heap.size w w') : Blk w' b cs := h.below hb h.lt

theorem Blk.drew {w : World} {b : Nat} {cs : List Value} (h : Blk w b cs) : Blk w.drew b cs := h
theorem Blk.drewN {w : World} {b : Nat} {cs : List Value} (h : Blk w b cs) (n : Nat) : Blk (w.drewN n) b cs := h

theorem Blk.alloc {w : World} {b : Nat} {cs : List Value} (h : Blk w b cs) (o : Obj) : Blk (w.alloc o) b cs := h.grown (World.grownBy_alloc w o none) (fun _ h => by cases h)

theorem Blk.new {w : World} {cs : Array Value} {t : TypeId} {l : List Value} (hl : cs.toList = l) {n : Nat} (hn : n = w.heap.size) : Blk (w.alloc (.cells cs t)) n l := by
  subst hl hn
  refine ⟨fun j u hu => ?_, fun j => ?_, by simp⟩
  · rw [World.cell?_alloc_at _ _ _ _ rfl]; simpa using hu
  · rw [frozen?_alloc_cells]; simp [World.frozen?]

theorem Blk.other {w : World} {b : Nat} {cs : List Value} (h : Blk w b cs) {d : Nat} (hd : b ≠ d) (j : Nat) (v : Value) : Blk (w.setCell ⟨d, j, none⟩ v) b cs :=
  h.grown (grown_setB w ⟨d, j, none⟩ v) (fun k hk => by injection hk with hk; subst hk; exact hd)

theorem Blk.put {w : World} {b : Nat} {cs : List Value} (h : Blk w b cs) {j : Nat} (hj : j < cs.length) (v : Value) {cs' : List Value} (hc : cs' = cs.set j v) : Blk (w.setCell ⟨b, j, none⟩ v) b cs' := by
  subst hc
  have hold := h.1 j cs[j] (List.getElem?_eq_getElem hj)
  refine ⟨fun i u hu => ?_, fun i => by simpa using h.2.1 i, by simpa using h.2.2⟩
  by_cases e : i = j
  · subst e
    rw [List.getElem?_set_self hj] at hu
    rw [← Option.some.inj hu]
    exact World.cell?_setCell_same _ _ _ hold
  · rw [List.getElem?_set_ne (fun h => e h.symm)] at hu
    rw [World.cell?_setCell_other _ _ _ _ (by intro h; injection h with _ h2; exact e h2.symm)]
    exact h.1 i u hu

section
variable {w : World} {b : Nat} {v0 v1 v2 v3 v4 v5 v6 : Value}
theorem Blk.c1 (h : Blk w b [v0]) : w.cell? ⟨b, 0, none⟩ = some v0 ∧ (∀ j, w.frozen? ⟨b, j, none⟩ = false) := ⟨h.1 0 _ rfl, h.2.1⟩
theorem Blk.c2 (h : Blk w b [v0, v1]) : w.cell? ⟨b, 0, none⟩ = some v0 ∧ w.cell? ⟨b, 1, none⟩ = some v1 ∧ (∀ j, w.frozen? ⟨b, j, none⟩ = false) := ⟨h.1 0 _ rfl, h.1 1 _ rfl, h.2.1⟩
theorem Blk.c3 (h : Blk w b [v0, v1, v2]) : w.cell? ⟨b, 0, none⟩ = some v0 ∧ w.cell? ⟨b, 1, none⟩ = some v1 ∧ w.cell? ⟨b, 2, none⟩ = some v2 ∧ (∀ j, w.frozen? ⟨b, j, none⟩ = false) := ⟨h.1 0 _ rfl, h.1 1 _ rfl, h.1 2 _ rfl, h.2.1⟩
theorem Blk.c4 (h : Blk w b [v0, v1, v2, v3]) : w.cell? ⟨b, 0, none⟩ = some v0 ∧ w.cell? ⟨b, 1, none⟩ = some v1 ∧ w.cell? ⟨b, 2, none⟩ = some v2 ∧ w.cell? ⟨b, 3, none⟩ = some v3 ∧ (∀ j, w.frozen? ⟨b, j, none⟩ = false) := ⟨h.1 0 _ rfl, h.1 1 _ rfl, h.1 2 _ rfl, h.1 3 _ rfl, h.2.1⟩
theorem Blk.c5 (h : Blk w b [v0, v1, v2, v3, v4]) : w.cell? ⟨b, 0, none⟩ = some v0 ∧ w.cell? ⟨b, 1, none⟩ = some v1 ∧ w.cell? ⟨b, 2, none⟩ = some v2 ∧ w.cell? ⟨b, 3, none⟩ = some v3 ∧ w.cell? ⟨b, 4, none⟩ = some v4 ∧ (∀ j, w.frozen? ⟨b, j, none⟩ = false) := ⟨h.1 0 _ rfl, h.1 1 _ rfl, h.1 2 _ rfl, h.1 3 _ rfl, h.1 4 _ rfl, h.2.1⟩
theorem Blk.c6 (h : Blk w b [v0, v1, v2, v3, v4, v5]) : w.cell? ⟨b, 0, none⟩ = some v0 ∧ w.cell? ⟨b, 1, none⟩ = some v1 ∧ w.cell? ⟨b, 2, none⟩ = some v2 ∧ w.cell? ⟨b, 3, none⟩ = some v3 ∧ w.cell? ⟨b, 4, none⟩ = some v4 ∧ w.cell? ⟨b, 5, none⟩ = some v5 ∧ (∀ j, w.frozen? ⟨b, j, none⟩ = false) := ⟨h.1 0 _ rfl, h.1 1 _ rfl, h.1 2 _ rfl, h.1 3 _ rfl, h.1 4 _ rfl, h.1 5 _ rfl, h.2.1⟩
theorem Blk.c7 (h : Blk w b [v0, v1, v2, v3, v4, v5, v6]) : w.cell? ⟨b, 0, none⟩ = some v0 ∧ w.cell? ⟨b, 1, none⟩ = some v1 ∧ w.cell? ⟨b, 2, none⟩ = some v2 ∧ w.cell? ⟨b, 3, none⟩ = some v3 ∧ w.cell? ⟨b, 4, none⟩ = some v4 ∧ w.cell? ⟨b, 5, none⟩ = some v5 ∧ w.cell? ⟨b, 6, none⟩ = some v6 ∧ (∀ j, w.frozen? ⟨b, j, none⟩ = false) := ⟨h.1 0 _ rfl, h.1 1 _ rfl, h.1 2 _ rfl, h.1 3 _ rfl, h.1 4 _ rfl, h.1 5 _ rfl, h.1 6 _ rfl, h.2.1⟩
end

theorem below_of_drew0 {B : Nat} {a w : World} (h : Below B a w) : Below B a w.drew := ⟨h.os, h.tape, h.output, h.size, h.block⟩

end Go.Proofs.Ythhpddiicnjmmaa
