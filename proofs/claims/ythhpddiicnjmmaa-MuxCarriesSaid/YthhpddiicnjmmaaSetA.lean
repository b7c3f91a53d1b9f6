/- Contracts of the reference's rows (qanatref07): Put, Del, Get, After. Contract of the reference's rows (qanatref07): Put. -/
import Derived.Test.YthhpddiicnjmmaaHit
import Derived.Test.YthhpddiicnjmmaaPutR
set_option linter.unusedVariables false
set_option linter.unusedSimpArgs false
set_option maxRecDepth 100000
namespace Go.Proofs.Ythhpddiicnjmmaa
open Go.RowKit

def delL : List Row → Int → List Row
  | [], _ => []
  | r :: t, k => if r.key = k then t else r :: delL t k
def getL : List Row → Int → Option ByteArray
  | [], _ => none
  | r :: t, k => if r.key = k then some r.val else getL t k
def afterL (l : List Row) (k : Int) (n : Nat) : List Row := (l.filter (fun r => decide (k < r.key))).take n

theorem delL_at : ∀ (l : List Row) (k : Int) (p : Nat) (x : Row), l[p]? = some x → x.key = k → (∀ r ∈ l.take p, ¬ r.key = k) → delL l k = l.take p ++ l.drop (p + 1)
  | [], k, p, x, hp, _, _ => by simp at hp
  | r :: t, k, 0, x, hp, hx, _ => by
    obtain rfl : r = x := by simpa using hp
    rw [delL, if_pos hx]; rfl
  | r :: t, k, p + 1, x, hp, hx, ha => by
    rw [delL, if_neg (ha r (by simp)), delL_at t k p x (by simpa using hp) hx (fun y hy => ha y (by simp [hy]))]
    simp
theorem delL_none : ∀ (l : List Row) (k : Int), (∀ r ∈ l, ¬ r.key = k) → delL l k = l
  | [], _, _ => rfl
  | r :: t, k, h => by rw [delL, if_neg (h r (by simp)), delL_none t k (fun x hx => h x (by simp [hx]))]
theorem getL_at : ∀ (l : List Row) (k : Int) (p : Nat) (x : Row), l[p]? = some x → x.key = k → (∀ r ∈ l.take p, ¬ r.key = k) → getL l k = some x.val
  | [], k, p, x, hp, _, _ => by simp at hp
  | r :: t, k, 0, x, hp, hx, _ => by
    obtain rfl : r = x := by simpa using hp
    rw [getL, if_pos hx]
  | r :: t, k, p + 1, x, hp, hx, ha => by
    rw [getL, if_neg (ha r (by simp)), getL_at t k p x (by simpa using hp) hx (fun y hy => ha y (by simp [hy]))]
theorem getL_none : ∀ (l : List Row) (k : Int), (∀ r ∈ l, ¬ r.key = k) → getL l k = none
  | [], _, _ => rfl
  | r :: t, k, h => by rw [getL, if_neg (h r (by simp)), getL_none t k (fun x hx => h x (by simp [hx]))]


end Go.Proofs.Ythhpddiicnjmmaa

set_option linter.unusedVariables false
set_option linter.unusedSimpArgs false
set_option maxRecDepth 100000
namespace Go.Proofs.Ythhpddiicnjmmaa
open Go.RowKit

end Go.Proofs.Ythhpddiicnjmmaa
