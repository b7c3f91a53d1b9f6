/- What the call owns, read as a list that lies behind the call's beginning. Holds over every program. -/
import Derived.Test.YthhpddiicnjmmaaMem
namespace Go.Proofs.Ythhpddiicnjmmaa
open Go.RowKit

theorem Own.isSlR {α : Type} {R : Rep α} {w : World} {base : Nat} {e : TypeId} {v : Value} {l : List α} (h : Own R w base (fun _ => False) e v l) : ∃ A cap, v = .slice A l.length cap ∧ l.length ≤ cap ∧ cap ≤ maxLen ∧ IsSl R w (fun b => base ≤ b ∧ b < w.heap.size) A l.length l :=
  h.isSl (fun _ h => h.elim) (fun _ h1 h2 => ⟨h1, h2⟩)
theorem bel_n {w w1 w2 : World} (h : Below w.heap.size w w1) (h' : Below w1.heap.size w1 w2) : Below w.heap.size w w2 := h.trans (h'.mono h.size)
theorem IsSl.af {α : Type} {R : Rep α} {w w' : World} {A : Option Addr} {n : Nat} {l : List α} (h : IsSl R w (· < w.heap.size) A n l) (hb : Below w.heap.size w w') : IsSl R w' (· < w'.heap.size) A n l := (h.below hb).more hb.size
end Go.Proofs.Ythhpddiicnjmmaa
