/- A map of numbers to true that the call makes, as the list of its keys: made, stored into, looked up. -/
import Derived.Test.YtojjeogpggielaaHit
import Derived.Maps.OwnOps
import Derived.Maps.OwnSet
import Derived.Maps.Views
set_option linter.unusedVariables false
set_option linter.unusedSimpArgs false
namespace Go.Proofs.Ytojjeogpggielaa
open Go.RowKit Go.Maps

def litT : DataW Unit := .lit (.bool true)
def keyLits (ks : List Int) : List Lit := ks.map (fun k => .int .i64 k)
/-- Block b is a map that has true at these keys, and nothing else. -/
def SetM (w : World) (b : Nat) (ks : List Int) : Prop := w.ownsMap Try.prog 2 (plainElem Try.prog 4) b ks.length (setOf litT (keyLits ks))

theorem keyed64 : Keyed Try.prog 2 := int_keyed Try.underlying2
theorem zeroB (w : World) : (zeroValue 4).run Try.prog w = .ok (.bool false) w := by kernel_rfl

theorem setM_new (w : World) : SetM (w.alloc (.map #[] 0)) w.heap.size [] := World.ownsMap_made w _ _ _
theorem SetM.lt {w : World} {b : Nat} {ks : List Int} (h : SetM w b ks) : b < w.heap.size := World.ownsMap.lt h
theorem SetM.kept {w w' : World} {b : Nat} {ks : List Int} {row : Option Nat} (h : SetM w b ks) (gr : w.grownBy w' row) (hne : some b ≠ row) : SetM w' b ks := World.ownsMap.kept h gr hne
theorem SetM.below {w w' : World} {b : Nat} {ks : List Int} (h : SetM w b ks) (hb : Below w.heap.size w w') : SetM w' b ks := h.kept (row := none) ⟨hb.os, hb.tape, hb.output, hb.size, fun k hk _ => hb.block k hk⟩ (by simp)

theorem keyLits_ok (ks : List Int) : ∀ x ∈ keyLits ks, WideAt.IsKeyLit x := by
  intro x hx
  obtain ⟨k, _, rfl⟩ := List.mem_map.1 hx
  trivial

theorem atKey_fold (x : Int) : ∀ (ks : List Int) (m : DataW Unit), IsMap m → ((keyLits ks).foldl (fun m x => m.put x litT) m).atKey (.int .i64 x) (.lit (.bool false)) = if ks.any (· == x) = true then litT else m.atKey (.int .i64 x) (.lit (.bool false))
  | [], m, _ => by simp [keyLits]
  | k :: t, m, hm => by
    have hr := atKey_fold x t (m.put (.int .i64 k) litT) (hm.put _ _)
    show ((keyLits t).foldl (fun m x => m.put x litT) (m.put (.int .i64 k) litT)).atKey (.int .i64 x) (.lit (.bool false)) = _
    rw [hr, List.any_cons]
    by_cases ht : t.any (· == x) = true
    · rw [if_pos ht, ht, Bool.or_true, if_pos rfl]
    · rw [if_neg ht]
      have ht' : t.any (· == x) = false := Bool.eq_false_iff.2 ht
      rw [ht', Bool.or_false]
      by_cases e : k = x
      · subst e
        rw [atKey_put_same hm (show WideAt.IsKeyLit (.int .i64 k) from trivial), if_pos (by simp)]
      · rw [atKey_put_other (fun h => e (by injection h with _ h; exact h.symm)), if_neg (by simpa using e)]

set_option maxRecDepth 100000 in
theorem plainElem_bool_inv {v : Value} {x : Bool} {ps : List MemPlace} (h : plainElem (H := Unit) Try.prog 4 v = some (.lit (.bool x), ps)) : v = .bool x := by
  unfold plainElem at h
  rw [Try.underlying4] at h
  cases v <;> simp at h
  rw [h.1]

theorem SetM.look {w : World} {b : Nat} {ks : List Int} (h : SetM w b ks) (x : Int) (hx : (Lit.int .i64 x).wf = true) :
    (Instr.lookup 47 (.map (some b)) (.int .i64 x) false).run Try.prog w = .ok (.bool (ks.any (· == x))) w := by
  obtain ⟨v, ps, hrun, hv⟩ := World.ownsMap.lookup h keyed64 Try.underlying47 (zeroB w) (plainElem_bool Try.underlying4 false) (keyOf_int_mk Try.underlying2 hx)
  rw [show setOf litT (keyLits ks) = (keyLits ks).foldl (fun m x => m.put x litT) (.map []) from rfl, atKey_fold x ks (.map []) isMap_empty] at hv
  rw [hrun]
  by_cases e : ks.any (· == x) = true
  · rw [if_pos e] at hv
    rw [plainElem_bool_inv hv, e]
  · rw [if_neg e] at hv
    have e' : ks.any (· == x) = false := Bool.eq_false_iff.2 e
    rw [plainElem_bool_inv (x := false) hv, e']

theorem SetM.put {w' : World} {b : Nat} {ks : List Int} {x : Int} (h : w'.ownsMap Try.prog 2 (plainElem Try.prog 4) b (ks.length + 1) ((setOf litT (keyLits ks)).put (.int .i64 x) litT)) : SetM w' b (ks ++ [x]) := by
  unfold SetM
  rw [List.length_append, show keyLits (ks ++ [x]) = keyLits ks ++ [.int .i64 x] by simp [keyLits], setOf_snoc]
  exact h
end Go.Proofs.Ytojjeogpggielaa
