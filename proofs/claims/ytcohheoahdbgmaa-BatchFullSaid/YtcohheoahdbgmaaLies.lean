/- Words for the walks of layer 16: an item that lies in memory. -/
import Derived.Test.YtcohheoahdbgmaaBatT
import Derived.Test.YtcohheoahdbgmaaBatA
import Derived.Test.YtcohheoahdbgmaaBatI
set_option linter.unusedVariables false
set_option linter.unusedSimpArgs false
namespace Go.Proofs.Ytcohheoahdbgmaa
open Go.RowKit

/-- An item that lies in memory. -/
structure Lies (w : World) (t : Item) (A : Option Addr) (n c : Nat) (A2 : Option Addr) (n2 c2 : Nat) : Prop where
  s : IsSl oprRep w (· < w.heap.size) A n t.ops
  l : n ≤ c
  m : c ≤ maxLen
  s2 : IsSl noteRep w (· < w.heap.size) A2 n2 t.notes
  l2 : n2 ≤ c2
  m2 : c2 ≤ maxLen

theorem Lies.after {w w' : World} {t : Item} {A : Option Addr} {n c : Nat} {A2 : Option Addr} {n2 c2 : Nat} (h : Lies w t A n c A2 n2 c2) (hb : Below w.heap.size w w') : Lies w' t A n c A2 n2 c2 :=
  ⟨(h.s.below hb).more hb.size, h.l, h.m, (h.s2.below hb).more hb.size, h.l2, h.m2⟩
theorem Lies.alloc {w : World} {t : Item} {A : Option Addr} {n c : Nat} {A2 : Option Addr} {n2 c2 : Nat} (h : Lies w t A n c A2 n2 c2) (o : Obj) : Lies (w.alloc o) t A n c A2 n2 c2 := h.after ((Below.refl _ _).alloc (Nat.le_refl _) o)
theorem Lies.small {w : World} {t : Item} {A : Option Addr} {n c : Nat} {A2 : Option Addr} {n2 c2 : Nat} (h : Lies w t A n c A2 n2 c2) (ht : t.ops.length ≤ 4096 ∧ t.notes.length ≤ 256) : n ≤ 281474976710656 ∧ n2 ≤ 281474976710656 := by
  have := h.s.len
  have := h.s2.len
  omega
theorem IsSl.afterB {α : Type} {R : Rep α} {w w' : World} {A : Option Addr} {n : Nat} {l : List α} (h : IsSl R w (· < w.heap.size) A n l) (hb : Below w.heap.size w w') : IsSl R w' (· < w'.heap.size) A n l := (h.below hb).more hb.size
theorem IsSl.allocB {α : Type} {R : Rep α} {w : World} {A : Option Addr} {n : Nat} {l : List α} (h : IsSl R w (· < w.heap.size) A n l) (o : Obj) : IsSl R (w.alloc o) (· < (w.alloc o).heap.size) A n l := h.afterB ((Below.refl _ _).alloc (Nat.le_refl _) o)
theorem below_next {w w1 w2 : World} (h : Below w.heap.size w w1) (h' : Below w1.heap.size w1 w2) : Below w.heap.size w w2 := h.trans (h'.mono h.size)
theorem below_allocB {w w1 : World} (h : Below w.heap.size w w1) (o : Obj) : Below w.heap.size w (w1.alloc o) := h.alloc h.size o

theorem item_arg {w : World} {t : Item} {cs : Array Value} (s : itemRep.rel w (· < w.heap.size) t cs.toList) : ∃ A n c A2 n2 c2, cs = #[.int .i64 t.lsn, .slice A n c, .slice A2 n2 c2] ∧ Lies w t A n c A2 n2 c2 ∧ I64 t.lsn := by
  obtain ⟨v2, v3, hcs, i0, ⟨A, n, c, h2, sl, hc, hm⟩, ⟨A2, n2, c2, h3, sl2, hc2, hm2⟩⟩ := s
  obtain rfl : v2 = .slice A n c := by simpa using h2
  obtain rfl : v3 = .slice A2 n2 c2 := by simpa using h3
  exact ⟨A, n, c, A2, n2, c2, by rw [← Array.toArray_toList (xs := cs), hcs], ⟨sl, hc, hm, sl2, hc2, hm2⟩, i0⟩

theorem u8_of {m : Int} (hm : (Lit.int .u8 m).wf = true) : ∃ mb : UInt8, m = (mb.toNat : Int) := by
  simp [Lit.wf, IntKind.min, IntKind.max, IntKind.bits, IntKind.signed] at hm
  refine ⟨UInt8.ofNat m.toNat, ?_⟩
  rw [UInt8.toNat_ofNat']
  omega

theorem great16_any (x : Item) (A : Option Addr) (n c : Nat) (A2 : Option Addr) (n2 c2 : Nat) (w : World) :
    Calls Try.prog 14 #[.agg #[.int .i64 x.lsn, .slice A n c, .slice A2 n2 c2]] w fun e w' => e = .returned (.bool (decide (100 < n) || decide (300 < n2))) ∧ Below w.heap.size w w' := by
  have hb0 : ∀ o, Below w.heap.size w (w.alloc o) := fun o => (Below.refl _ _).alloc (Nat.le_refl _) o
  by_cases h : 100 < n
  · have h1 : decide (100 < (n : Int)) = true := decide_eq_true (by omega)
    rw [decide_eq_true h, Bool.true_or]
    go_enter Try.func14, Try.ntmps14
    go_wp2
    go_ret
    exact ⟨rfl, hb0 _⟩
  · have h1 : decide (100 < (n : Int)) = false := decide_eq_false (by omega)
    rw [decide_eq_false h, Bool.false_or]
    have hx : decide (300 < n2) = decide (300 < (n2 : Int)) := by rw [Bool.eq_iff_iff]; simp; omega
    rw [hx]
    clear hx
    go_enter Try.func14, Try.ntmps14
    go_wp2
    go_ret
    exact ⟨rfl, hb0 _⟩
end Go.Proofs.Ytcohheoahdbgmaa
