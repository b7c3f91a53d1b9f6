/- Plain facts on strings' bytes. -/
import Derived.Test.YthhpddiicnjmmaaPlain
namespace Go.Proofs.Ythhpddiicnjmmaa
open Go.RowKit

theorem toList_loop (s : ByteArray) : ∀ (k i : Nat) (r : List UInt8), k = s.size - i → ByteArray.toList.loop s i r = r.reverse ++ s.data.toList.drop i
  | 0, i, r, h => by
    unfold ByteArray.toList.loop
    rw [if_neg (by omega), List.drop_eq_nil_of_le (by simp; have : s.data.size = s.size := rfl; omega), List.append_nil]
  | k + 1, i, r, h => by
    unfold ByteArray.toList.loop
    have hi : i < s.data.toList.length := by simp; have : s.data.size = s.size := rfl; omega
    have hi2 : i < s.size := by omega
    rw [if_pos hi2, toList_loop s k (i + 1) _ (by omega), List.drop_eq_getElem_cons hi]
    simp [ByteArray.get!, hi2]

theorem toList_data (s : ByteArray) : s.toList = s.data.toList := by
  unfold ByteArray.toList; rw [toList_loop s s.size 0 [] (by omega)]; simp

theorem str_empty (s : ByteArray) : s.toList.isEmpty = (s.size == 0) := by
  rw [toList_data]
  have h : s.data.toList.length = s.size := by simp
  cases hl : s.data.toList with
  | nil => rw [hl] at h; simp at h; simp [← h]
  | cons a t => rw [hl] at h; simp at h; simp [← h]

theorem ret_bool {a b : Bool} (h : a = b) : Ending.returned (.bool a) = .returned (.bool b) := by rw [h]
end Go.Proofs.Ythhpddiicnjmmaa
