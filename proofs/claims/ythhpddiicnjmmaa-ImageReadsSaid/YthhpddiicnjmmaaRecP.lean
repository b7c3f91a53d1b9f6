/- Plain: what is put is taken. -/
import Derived.Test.YthhpddiicnjmmaaRec7
namespace Go.Proofs.Ythhpddiicnjmmaa

theorem putB_len (p : List UInt8) : (putB p).length = 8 + p.length := by
  unfold putB
  simp only [List.length_append, bigB_len]
  omega

theorem put_take4 (p t : List UInt8) : (putB p ++ t).take 4 = bigB p.length 4 := by
  unfold putB
  rw [List.append_assoc, List.take_append_of_le_length (by rw [bigB_len]; omega), List.take_of_length_le (by rw [bigB_len]; omega)]

theorem put_drop4 (p t : List UInt8) : (putB p ++ t).drop 4 = bigB (recSum p) 4 ++ (p ++ t) := by
  unfold putB
  rw [List.append_assoc, List.drop_append_of_le_length (by rw [bigB_len]; omega), List.drop_of_length_le (by rw [bigB_len]; omega), List.nil_append, List.append_assoc]

theorem put_sum4 (p t : List UInt8) : ((putB p ++ t).drop 4).take 4 = bigB (recSum p) 4 := by
  rw [put_drop4, List.take_append_of_le_length (by rw [bigB_len]; omega), List.take_of_length_le (by rw [bigB_len]; omega)]

theorem put_drop8 (p t : List UInt8) : (putB p ++ t).drop 8 = p ++ t := by
  rw [show 8 = 4 + 4 from rfl, ← List.drop_drop, put_drop4, List.drop_append_of_le_length (by rw [bigB_len]; omega), List.drop_of_length_le (by rw [bigB_len]; omega), List.nil_append]

theorem put_takeN (p t : List UInt8) (h : p.length < 4294967296) : takeN (putB p ++ t) = p.length := by
  unfold takeN
  rw [put_take4, numB_bigB]
  omega

theorem put_back (p t : List UInt8) (h : p.length ≤ 1048576) : takeE (putB p ++ t) = 0 ∧ takeK (putB p ++ t) = 8 + p.length ∧ takeV (putB p ++ t) = p := by
  have hN := put_takeN p t (by omega)
  have hp : ((putB p ++ t).drop 8).take p.length = p := by rw [put_drop8]; simp
  have hE : takeE (putB p ++ t) = 0 := by
    refine takeE_ok (by rw [List.length_append, putB_len]; omega) (by rw [hN]; omega) (by rw [hN, List.length_append, putB_len]; omega) ?_
    rw [hN, hp, put_take4, put_sum4, numB_bigB]
    have : moreC (moreC 0 (bigB p.length 4)) p < 4294967296 := moreC_lt _ _ (moreC_lt _ _ (by omega))
    unfold recSum
    omega
  obtain ⟨h1, h2⟩ := take_good hE
  exact ⟨hE, by rw [h1, hN], by rw [h2, hN, hp]⟩

/-- Cut off it is too short. -/
theorem put_cut (p : List UInt8) (k : Nat) (h : p.length ≤ 1048576) (hk : k < (putB p).length) : takeE ((putB p).take k) = 2 := by
  rw [putB_len] at hk
  have hl : ((putB p).take k).length = k := by rw [List.length_take, putB_len]; omega
  by_cases h8 : k < 8
  · exact takeE_short (by rw [hl]; exact h8)
  · have h4 : ((putB p).take k).take 4 = bigB p.length 4 := by
      rw [List.take_take, show min 4 k = 4 by omega]
      have := put_take4 p []
      rwa [List.append_nil] at this
    have hN : takeN ((putB p).take k) = p.length := by
      unfold takeN
      rw [h4, numB_bigB]
      omega
    exact takeE_cut (by rw [hl]; omega) (by rw [hN]; omega) (by rw [hN, hl]; omega)
end Go.Proofs.Ythhpddiicnjmmaa
