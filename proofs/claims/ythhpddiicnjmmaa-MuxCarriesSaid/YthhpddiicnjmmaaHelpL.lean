/- Cells of one block that may be written. -/
import Derived.Test.YthhpddiicnjmmaaMem
namespace Go.Proofs.Ythhpddiicnjmmaa
open Go.RowKit

/-- So many cells of a block are there, and may be written. -/
def Solid (w : World) (g m : Nat) : Prop := ∀ j, j < m → ∃ u, w.cell? ⟨g, j, none⟩ = some u ∧ w.frozen? ⟨g, j, none⟩ = false

theorem Own.solid {α : Type} {R : Rep α} {w : World} {base g n cap : Nat} {S : Nat → Prop} {e : TypeId} {l : List α} (h : Own R w base S e (.slice (some ⟨g, 0, none⟩) n cap) l) : Solid w g (l.length * R.size) := by
  intro j hj
  have hp := R.pos
  have hk : j / R.size < l.length := Nat.div_lt_of_lt_mul (by rw [Nat.mul_comm]; exact hj)
  obtain ⟨cs, u, _, _, hu, hf⟩ := h.cellAt (k := j / R.size) (j := j % R.size) (List.getElem?_eq_getElem hk) (Nat.mod_lt _ hp)
  rw [show j / R.size * R.size + j % R.size = j from Nat.div_add_mod' j R.size] at hu hf
  exact ⟨u, hu, hf⟩

/-- Three alike, just laid into a block of their own. -/
theorem Src.new3 {α : Type} {R : Rep α} {w : World} {S : Nat → Prop} {e : TypeId} {a : α} {cs xs : List Value} (h : R.rel (w.alloc (.cells xs.toArray e)) S a cs) (hxs : xs = cs ++ (cs ++ cs)) : Src R (w.alloc (.cells xs.toArray e)) S (some ⟨w.heap.size, 0, none⟩) 3 [a, a, a] :=
  ⟨rfl, [cs, cs, cs], (Rows.single h).append ((Rows.single h).append (Rows.single h)), fun _ => ⟨_, 0, rfl, trivial, fun j u hu => by rw [Nat.zero_add, World.cell?_alloc_at _ _ _ _ rfl]; subst hxs; simpa using hu⟩⟩

theorem Solid.set {w : World} {g m k : Nat} (h : Solid w g m) (hj : k < m) (u : Value) : Solid (w.setCell ⟨g, k, none⟩ u) g m := by
  intro j hjm
  obtain ⟨v, hv, hf⟩ := h j hjm
  obtain ⟨v2, hv2, _⟩ := h k hj
  refine ⟨if j = k then u else v, ?_, ?_⟩
  · by_cases e : j = k
    · subst e; rw [if_pos rfl]; exact World.cell?_setCell_same _ _ _ hv
    · rw [if_neg e]
      exact (World.cell?_setCell_other _ ⟨g, k, none⟩ ⟨g, j, none⟩ _ (by first | (simp; done) | (simp; omega))).trans hv
  · rw [World.frozen?_setCell]; exact hf

theorem Solid.below {w w' : World} {g m B : Nat} (h : Solid w g m) (hb : Below B w w') (hg : g < B) : Solid w' g m := by
  intro j hj
  obtain ⟨v, hv, hf⟩ := h j hj
  exact ⟨v, (hb.cell (p := ⟨g, j, none⟩) hg).trans hv, (hb.frozen (p := ⟨g, j, none⟩) hg).trans hf⟩

theorem Own.isSlB {α : Type} {R : Rep α} {w : World} {base : Nat} {e : TypeId} {v : Value} {l : List α} (h : Own R w base (fun _ => False) e v l) : ∃ A cap, v = .slice A l.length cap ∧ l.length ≤ cap ∧ cap ≤ maxLen ∧ IsSl R w (· < w.heap.size) A l.length l :=
  h.isSl (fun _ h => h.elim) (fun _ _ h => h)

/-- What qanathelp's Own has made. -/
theorem Own.copied {α : Type} {R : Rep α} {w : World} {B g n cap : Nat} {e : TypeId} {l : List α} {x : α} (own : Own R w B (fun _ => False) e (.slice (some ⟨g, 0, none⟩) (n + 3) cap) (l ++ [x, x, x])) (hl : n = l.length) :
    g < w.heap.size ∧ B ≤ g ∧ IsSl R w (· < w.heap.size) (some ⟨g, 0, none⟩) (n + 3) (l ++ [x, x, x]) ∧ IsSl R w (· < w.heap.size) (some ⟨g, 0, none⟩) n l := by
  obtain ⟨g', cap', hv, hB, hgl, _⟩ := own.form1 (by simp)
  injection hv with h1 h2 h3
  injection h1 with h1
  injection h1 with h1 _ _
  subst h1 h3
  obtain ⟨A2, cap2, hv2, _, _, sl⟩ := own.isSlB
  injection hv2 with h4 h5 _
  rw [← h4, ← h5] at sl
  refine ⟨hgl, hB, sl, ?_⟩
  have := sl.cutTo (hi := n) (by omega)
  rw [show (l ++ [x, x, x]).take n = l by rw [hl, List.take_left]] at this
  exact this
end Go.Proofs.Ythhpddiicnjmmaa
