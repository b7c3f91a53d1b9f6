/- Plain laws of fields' bytes: what is encoded is decoded, cut off it is too short, with more behind it is none; what is decoded is encoded as the same bytes. No walk. -/
import Derived.Test.YthhpddiicnjmmaaFldL
namespace Go.Proofs.Ythhpddiicnjmmaa
open Go.RowKit

theorem numB_cons (c : UInt8) : ∀ (l : List UInt8), numB (c :: l) = c.toNat * 256 ^ l.length + numB l := by
  suffices h : ∀ (n : Nat) (l : List UInt8), l.length = n → numB (c :: l) = c.toNat * 256 ^ l.length + numB l from fun l => h _ l rfl
  intro n
  induction n with
  | zero => intro l hl; obtain rfl := List.eq_nil_of_length_eq_zero hl; simp [numB]
  | succ n ih =>
    intro l hl
    have hne : l ≠ [] := by rintro rfl; simp at hl
    obtain ⟨q, x, rfl⟩ : ∃ q x, l = q ++ [x] := ⟨l.dropLast, l.getLast hne, (List.dropLast_concat_getLast hne).symm⟩
    have := ih q (by simp at hl; exact hl)
    rw [← List.cons_append, numB_snoc, numB_snoc, this, List.length_append, Nat.pow_add]
    simp only [List.length_singleton, Nat.pow_one, Nat.add_mul, Nat.mul_assoc]
    omega

theorem numB_bigB (x : Nat) : ∀ n, numB (bigB x n) = x % 256 ^ n
  | 0 => by simp [bigB, numB, Nat.mod_one]
  | n + 1 => by
    have e : x % 256 ^ (n + 1) = x % 256 ^ n + 256 ^ n * (x / 256 ^ n % 256) := by rw [Nat.pow_succ, Nat.mod_mul]
    rw [bigB, numB_cons, numB_bigB x n, bigB_len, UInt8.toNat_ofNat', e, show (2 : Nat) ^ 8 = 256 from rfl, Nat.mul_comm, Nat.add_comm]

theorem bigB_numB : ∀ (l : List UInt8), bigB (numB l) l.length = l
  | [] => rfl
  | c :: l => by
    have hlt := numB_lt l
    have hp : 0 < 256 ^ l.length := Nat.pow_pos (by omega)
    rw [List.length_cons, bigB, numB_cons]
    have h1 : (c.toNat * 256 ^ l.length + numB l) / 256 ^ l.length = c.toNat := by
      rw [Nat.mul_comm, Nat.mul_add_div hp, Nat.div_eq_of_lt hlt, Nat.add_zero]
    rw [h1, UInt8.ofNat_toNat]
    have h2 : ∀ (a y : Nat) (n : Nat), bigB (a * 256 ^ n + y) n = bigB y n := by
      intro a y n
      suffices h : ∀ (m : Nat), m ≤ n → bigB (a * 256 ^ n + y) m = bigB y m from h n (Nat.le_refl _)
      intro m
      induction m with
      | zero => intro _; rfl
      | succ m ih =>
        intro hm
        rw [bigB, bigB, ih (by omega)]
        congr 1
        obtain ⟨d, rfl⟩ : ∃ d, n = m + 1 + d := ⟨n - (m + 1), by omega⟩
        have hpm : 0 < 256 ^ m := Nat.pow_pos (by omega)
        have e : a * 256 ^ (m + 1 + d) + y = 256 ^ m * (256 * (a * 256 ^ d)) + y := by
          rw [Nat.pow_add, Nat.pow_succ]
          congr 1
          simp only [Nat.mul_assoc, Nat.mul_comm, Nat.mul_left_comm]
        rw [e, Nat.mul_add_div hpm]
        apply UInt8.toNat_inj.1
        rw [UInt8.toNat_ofNat', UInt8.toNat_ofNat']
        omega
    rw [h2, bigB_numB l]

theorem wrap_asU64 {n : Int} (h : I64 n) : wrap64 ((asU64 n : Nat) : Int) = n := by
  unfold I64 at h
  unfold asU64 wrap64
  omega

theorem asU64_wrap {x : Nat} (h : x < 18446744073709551616) : asU64 (wrap64 (x : Int)) = x := by
  unfold asU64 wrap64
  omega

theorem bytes_mk (s : ByteArray) : (⟨s.data.toList.toArray⟩ : ByteArray) = s := by simp

/-- The field at the front of what was encoded. -/
theorem decF_enc {f : Fld} (h : okField f = true) (hw : f.wf) (r : List UInt8) : decF (encF f ++ r) = .ok (f, r) := by
  obtain ⟨k, n, s⟩ := f
  unfold okField at h
  simp at h
  rcases h with ⟨rfl, h2⟩ | ⟨⟨rfl, rfl⟩, h3⟩
  · rw [show encF ⟨1, n, s⟩ = 1 :: bigB (asU64 n) 8 from if_pos rfl, List.cons_append, decF, if_pos rfl, if_neg (by simp [bigB_len])]
    have e1 : (bigB (asU64 n) 8 ++ r).take 8 = bigB (asU64 n) 8 := by rw [List.take_append_of_le_length (by rw [bigB_len]; omega), List.take_of_length_le (by rw [bigB_len]; omega)]
    have e2 : (bigB (asU64 n) 8 ++ r).drop 8 = r := by rw [List.drop_append_of_le_length (by rw [bigB_len]; omega), List.drop_eq_nil_of_le (by rw [bigB_len]; omega), List.nil_append]
    have h8 : (256 : Nat) ^ 8 = 18446744073709551616 := by decide +kernel
    have hlt : asU64 n < 18446744073709551616 := by unfold asU64; omega
    rw [e1, e2, numB_bigB, h8, Nat.mod_eq_of_lt hlt, wrap_asU64 hw.2.1]
    rw [h2]
  · rw [show encF ⟨2, 0, s⟩ = 2 :: (bigB s.size 2 ++ s.data.toList) from rfl, List.cons_append, decF, if_neg (by decide), if_pos rfl, List.append_assoc]
    have e1 : (bigB s.size 2 ++ (s.data.toList ++ r)).take 2 = bigB s.size 2 := by rw [List.take_append_of_le_length (by rw [bigB_len]; omega), List.take_of_length_le (by rw [bigB_len]; omega)]
    have e2 : (bigB s.size 2 ++ (s.data.toList ++ r)).drop 2 = s.data.toList ++ r := by rw [List.drop_append_of_le_length (by rw [bigB_len]; omega), List.drop_eq_nil_of_le (by rw [bigB_len]; omega), List.nil_append]
    have hn : numB (bigB s.size 2) = s.size := by rw [numB_bigB]; exact Nat.mod_eq_of_lt (by omega)
    have hsl : s.data.toList.length = s.size := by simp
    rw [if_neg (by simp [bigB_len]), e1, hn, e2, if_neg (by omega), if_neg (by rw [List.length_append]; omega)]
    rw [List.take_append_of_le_length (by omega), List.take_of_length_le (by omega), List.drop_append_of_le_length (by omega), List.drop_eq_nil_of_le (by omega), List.nil_append, bytes_mk]

/-- What is encoded, cut off. -/
theorem decF_cut {f : Fld} (h : okField f = true) {k : Nat} (hk : k < (encF f).length) : decF ((encF f).take k) = .error 2 := by
  obtain ⟨kd, n, s⟩ := f
  unfold okField at h
  simp at h
  cases k with
  | zero => rfl
  | succ k =>
    rcases h with ⟨rfl, h2⟩ | ⟨⟨rfl, rfl⟩, h3⟩
    · rw [show encF ⟨1, n, s⟩ = 1 :: bigB (asU64 n) 8 from if_pos rfl] at hk ⊢
      simp [bigB_len] at hk
      rw [List.take_succ_cons, decF, if_pos rfl, if_pos (by rw [List.length_take, bigB_len]; omega)]
    · rw [show encF ⟨2, 0, s⟩ = 2 :: (bigB s.size 2 ++ s.data.toList) from rfl] at hk ⊢
      have hsl : s.data.toList.length = s.size := by simp
      simp only [List.length_cons, List.length_append, bigB_len, hsl] at hk
      rw [List.take_succ_cons, decF, if_neg (by decide), if_pos rfl]
      by_cases h2 : k < 2
      · rw [if_pos (by rw [List.length_take]; omega)]
      · have e1 : ((bigB s.size 2 ++ s.data.toList).take k).take 2 = bigB s.size 2 := by
          rw [List.take_take, Nat.min_eq_left (by omega), List.take_append_of_le_length (by rw [bigB_len]; omega), List.take_of_length_le (by rw [bigB_len]; omega)]
        have hn : numB (bigB s.size 2) = s.size := by rw [numB_bigB]; exact Nat.mod_eq_of_lt (by omega)
        rw [if_neg (by rw [List.length_take, List.length_append, bigB_len, hsl]; omega), e1, hn, if_neg (by omega), if_pos (by rw [List.length_drop, List.length_take, List.length_append, bigB_len, hsl]; omega)]

/-- What is decoded is what was encoded. -/
theorem encF_dec {b r : List UInt8} {f : Fld} (h : decF b = .ok (f, r)) : b = encF f ++ r ∧ okField f = true ∧ f.wf := by
  cases b with
  | nil => cases h
  | cons k t =>
    rw [decF] at h
    split at h
    · rename_i hk
      split at h
      · cases h
      · rename_i hl
        cases h
        have hlt := numB_lt (t.take 8)
        rw [List.length_take, Nat.min_eq_left (by omega)] at hlt
        have h8 : (256 : Nat) ^ 8 = 18446744073709551616 := by decide +kernel
        rw [h8] at hlt
        refine ⟨?_, by simp [okField], ⟨by unfold I64; dsimp only; omega, by unfold I64 wrap64; dsimp only; omega, by show 0 ≤ _; omega⟩⟩
        rw [show encF ⟨1, wrap64 (numB (t.take 8) : Int), ByteArray.empty⟩ = 1 :: bigB (asU64 (wrap64 (numB (t.take 8) : Int))) 8 from if_pos rfl, asU64_wrap hlt, hk]
        have := bigB_numB (t.take 8)
        rw [List.length_take, Nat.min_eq_left (by omega)] at this
        rw [this, List.cons_append, List.take_append_drop]
    · split at h
      · rename_i hk
        split at h
        · cases h
        · split at h
          · cases h
          · split at h
            · cases h
            · rename_i h1 h2 h3
              cases h
              have hsz : (⟨((t.drop 2).take (numB (t.take 2))).toArray⟩ : ByteArray).size = numB (t.take 2) := by
                simp only [ByteArray.size, List.size_toArray, List.length_take]
                omega
              refine ⟨?_, by unfold okField; rw [hsz]; simp; omega, ⟨by unfold I64; dsimp only; omega, by unfold I64; dsimp only; omega, by show ByteArray.size _ ≤ _; rw [hsz]; unfold maxLen; omega⟩⟩
              rw [show ∀ s, encF ⟨2, 0, s⟩ = 2 :: (bigB s.size 2 ++ s.data.toList) from fun _ => rfl, hsz, hk]
              have := bigB_numB (t.take 2)
              rw [List.length_take, Nat.min_eq_left (by omega)] at this
              rw [this]
              simp only [List.cons_append, List.append_assoc]
              rw [List.take_append_drop, List.take_append_drop]
      · cases h

theorem decN_enc : ∀ (l acc : List Fld) (r : List UInt8), l.all okField = true → (∀ f ∈ l, f.wf) → decN l.length (encL l ++ r) acc = if r = [] then .ok (acc ++ l) else .error 3
  | [], acc, r, _, _ => by simp [encL, decN]
  | f :: t, acc, r, ha, hw => by
    simp only [List.all_cons, Bool.and_eq_true] at ha
    rw [List.length_cons, decN, show encL (f :: t) = encF f ++ encL t by simp [encL], List.append_assoc, decF_enc ha.1 (hw f (by simp))]
    dsimp only
    rw [decN_enc t _ r ha.2 (fun g hg => hw g (by simp [hg]))]
    simp

theorem decN_cut : ∀ (l acc : List Fld) (k : Nat), l.all okField = true → (∀ f ∈ l, f.wf) → k < (encL l).length → decN l.length ((encL l).take k) acc = .error 2
  | [], acc, k, _, _, hk => by simp [encL] at hk
  | f :: t, acc, k, ha, hw, hk => by
    simp only [List.all_cons, Bool.and_eq_true] at ha
    have e : encL (f :: t) = encF f ++ encL t := by simp [encL]
    rw [e] at hk ⊢
    rw [List.length_cons, decN]
    by_cases h : k < (encF f).length
    · rw [List.take_append_of_le_length (by omega), decF_cut ha.1 h]
    · rw [List.take_append, List.take_of_length_le (by omega), decF_enc ha.1 (hw f (by simp))]
      dsimp only
      rw [List.length_append] at hk
      exact decN_cut t _ _ ha.2 (fun g hg => hw g (by simp [hg])) (by omega)

theorem encN_dec : ∀ (k : Nat) (b : List UInt8) (acc l : List Fld), decN k b acc = .ok l → ∃ m, l = acc ++ m ∧ m.length = k ∧ b = encL m ∧ m.all okField = true ∧ ∀ f ∈ m, f.wf
  | 0, b, acc, l, h => by
    rw [decN] at h
    split at h
    · rename_i hb; cases h; exact ⟨[], by simp, rfl, by simp [encL, hb], rfl, by simp⟩
    · cases h
  | k + 1, b, acc, l, h => by
    rw [decN] at h
    split at h
    · cases h
    · rename_i f r hd
      obtain ⟨h1, h2, h3⟩ := encF_dec hd
      obtain ⟨m, rfl, hm, hr, ha, hw⟩ := encN_dec k r _ l h
      refine ⟨f :: m, by simp, by simp [hm], by rw [h1, hr]; simp [encL], by simp [h2]; simpa using ha, ?_⟩
      intro g hg
      rcases List.mem_cons.1 hg with rfl | hg
      · exact h3
      · exact hw g hg

/-- All of it. -/
def encB (l : List Fld) : List UInt8 := bigB l.length 2 ++ encL l

section
variable {l : List Fld} (hn : l.length ≤ 32767) (ha : l.all okField = true) (hw : ∀ f ∈ l, f.wf)
include hn

theorem head_take (r : List UInt8) : numB ((bigB l.length 2 ++ r).take 2) = l.length := by
  rw [List.take_append_of_le_length (by rw [bigB_len]; omega), List.take_of_length_le (by rw [bigB_len]; omega), numB_bigB]
  exact Nat.mod_eq_of_lt (by omega)

omit hn in
theorem head_drop (r : List UInt8) : (bigB l.length 2 ++ r).drop 2 = r := by
  rw [List.drop_append_of_le_length (by rw [bigB_len]; omega), List.drop_eq_nil_of_le (by rw [bigB_len]; omega), List.nil_append]

include ha

theorem encO_eq : encO l = some (encB l) := by unfold encO; rw [if_pos ⟨hn, ha⟩]; rfl

include hw

theorem decO_enc (r : List UInt8) : decO (encB l ++ r) = if r = [] then .ok l else .error 3 := by
  unfold decO encB
  rw [List.append_assoc, if_neg (by simp [bigB_len]), head_take hn, head_drop, if_neg (by omega), decN_enc l [] r ha hw]
  simp

theorem decO_cut {k : Nat} (hk : k < (encB l).length) : decO ((encB l).take k) = .error 2 := by
  unfold decO
  by_cases h2 : k < 2
  · rw [if_pos (by rw [List.length_take]; omega)]
  · unfold encB at hk ⊢
    rw [List.length_append, bigB_len] at hk
    have e : (bigB l.length 2 ++ encL l).take k = bigB l.length 2 ++ (encL l).take (k - 2) := by
      rw [List.take_append, List.take_of_length_le (by rw [bigB_len]; omega), bigB_len]
    rw [e, if_neg (by simp [bigB_len]), head_take hn, head_drop, if_neg (by omega), decN_cut l [] _ ha hw (by omega)]
end

theorem encO_dec {b : List UInt8} {l : List Fld} (h : decO b = .ok l) : encO l = some b ∧ l.length ≤ 32767 ∧ ∀ f ∈ l, f.wf := by
  unfold decO at h
  split at h
  · cases h
  · split at h
    · cases h
    · rename_i h1 h2
      obtain ⟨m, hlm, hm, hb, ha, hw⟩ := encN_dec _ _ _ _ h
      rw [List.nil_append] at hlm
      subst hlm
      have hlen : l.length ≤ 32767 := by omega
      refine ⟨?_, hlen, hw⟩
      rw [encO_eq hlen ha]
      have := bigB_numB (b.take 2)
      rw [List.length_take, Nat.min_eq_left (by omega)] at this
      unfold encB
      rw [hm, this, ← hb, List.take_append_drop]

end Go.Proofs.Ythhpddiicnjmmaa
