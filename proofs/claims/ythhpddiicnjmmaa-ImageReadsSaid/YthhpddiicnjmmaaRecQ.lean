/- Plain: records one behind the other, and cut off; a record of which bits are turned. -/
import Derived.Test.YthhpddiicnjmmaaRecP
import Derived.Test.YthhpddiicnjmmaaCrcL
namespace Go.Proofs.Ythhpddiicnjmmaa

theorem turned_more {l l' : List UInt8} {at_ bits k : Nat} (h : Turned l l' at_ bits k) (hk : k ≤ 32) (s : Nat) : (moreC s l' = moreC s l) ↔ bits % 2 ^ k = 0 := by
  unfold moreC
  rw [h.2]
  have hlt : bits % 2 ^ k < 4294967296 := Nat.lt_of_lt_of_le (Nat.mod_lt _ (Nat.two_pow_pos k)) (Nat.pow_le_pow_right (n := 2) (by omega) hk)
  constructor
  · intro e
    refine shN_zero (8 * l.length - at_) hlt ?_
    have e2 := congrArg (fun z => (l.foldl stepC (4294967295 ^^^ s)) ^^^ (z ^^^ 4294967295)) e
    simp only [Nat.xor_assoc, Nat.xor_self, Nat.xor_zero] at e2
    rw [← Nat.xor_assoc, Nat.xor_self, Nat.zero_xor] at e2
    exact e2
  · intro e
    rw [e, shN_null]
    simp

/-- What stands ahead of what a record holds. -/
def headB (p : List UInt8) : List UInt8 := bigB p.length 4 ++ bigB (recSum p) 4
theorem headB_len (p : List UInt8) : (headB p).length = 8 := by
  unfold headB
  rw [List.length_append, bigB_len, bigB_len]
theorem putB_head (p : List UInt8) : putB p = headB p ++ p := by unfold putB headB; rw [List.append_assoc]

theorem head_take4 (p t : List UInt8) : (headB p ++ t).take 4 = bigB p.length 4 := by
  unfold headB
  rw [List.append_assoc, List.take_append_of_le_length (by rw [bigB_len]; omega), List.take_of_length_le (by rw [bigB_len]; omega)]

theorem head_sum4 (p t : List UInt8) : ((headB p ++ t).drop 4).take 4 = bigB (recSum p) 4 := by
  unfold headB
  rw [List.append_assoc, List.drop_append_of_le_length (by rw [bigB_len]; omega), List.drop_of_length_le (by rw [bigB_len]; omega), List.nil_append, List.take_append_of_le_length (by rw [bigB_len]; omega), List.take_of_length_le (by rw [bigB_len]; omega)]

theorem head_drop8 (p t : List UInt8) : (headB p ++ t).drop 8 = t := by
  rw [List.drop_append_of_le_length (by rw [headB_len]; omega), List.drop_of_length_le (by rw [headB_len]; omega), List.nil_append]

theorem take_turned {p p' : List UInt8} {at_ bits k : Nat} (h : Turned p p' at_ bits k) (hk : k ≤ 32) (hp : p.length ≤ 1048576) : takeE (headB p ++ p') = if bits % 2 ^ k = 0 then 0 else 4 := by
  have hN : takeN (headB p ++ p') = p.length := by
    unfold takeN
    rw [head_take4, numB_bigB]
    omega
  have hl : (headB p ++ p').length = 8 + p.length := by rw [List.length_append, headB_len, h.1]
  have hs : numB (((headB p ++ p').drop 4).take 4) = moreC (moreC 0 (bigB p.length 4)) p := by
    rw [head_sum4, numB_bigB]
    have : moreC (moreC 0 (bigB p.length 4)) p < 4294967296 := moreC_lt _ _ (moreC_lt _ _ (by omega))
    unfold recSum
    omega
  have hd : ((headB p ++ p').drop 8).take p.length = p' := by rw [head_drop8, List.take_of_length_le (by rw [h.1]; omega)]
  have ht := turned_more h hk (moreC 0 (bigB p.length 4))
  split
  · rename_i e
    refine takeE_ok (by rw [hl]; omega) (by rw [hN]; omega) (by rw [hN, hl]; omega) ?_
    rw [hN, hd, hs, head_take4]
    exact ht.2 e
  · rename_i e
    refine takeE_sum (by rw [hl]; omega) (by rw [hN]; omega) (by rw [hN, hl]; omega) ?_
    rw [hN, hd, hs, head_take4]
    exact fun e' => e (ht.1 e')

/-! ### Scan -/
def scanF : Nat → List UInt8 → List (List UInt8) × Nat
  | 0, _ => ([], 0)
  | k + 1, b => if takeE b = 0 then (takeV b :: (scanF k (b.drop (takeK b))).1, takeK b + (scanF k (b.drop (takeK b))).2) else ([], 0)

/-- What the records at the front hold, and their length. -/
def scanL (b : List UInt8) : List (List UInt8) × Nat := scanF b.length b

theorem take_le {b : List UInt8} (h : takeE b = 0) : 8 ≤ takeK b ∧ takeK b ≤ b.length := by
  have h1 := (take_good h).1
  unfold takeE at h
  split at h
  · omega
  · split at h
    · omega
    · split at h
      · omega
      · omega

theorem takeV_le (b : List UInt8) : (takeV b).length ≤ b.length := by
  unfold takeV
  split
  · simp; omega
  · simp

theorem scanF_fuel : ∀ (k k' : Nat) (b : List UInt8), b.length ≤ k → b.length ≤ k' → scanF k b = scanF k' b
  | 0, k', b, h, _ => by
    have : b = [] := List.eq_nil_of_length_eq_zero (by omega)
    subst this
    cases k' with
    | zero => rfl
    | succ k' => rw [scanF, scanF, if_neg (by rw [takeE_short (by simp)]; omega)]
  | k + 1, 0, b, _, h => by
    have : b = [] := List.eq_nil_of_length_eq_zero (by omega)
    subst this
    rw [scanF, scanF, if_neg (by rw [takeE_short (by simp)]; omega)]
  | k + 1, k' + 1, b, h, h' => by
    rw [scanF, scanF]
    split
    · rename_i e
      obtain ⟨h8, hl⟩ := take_le e
      have hd : (b.drop (takeK b)).length = b.length - takeK b := List.length_drop
      rw [scanF_fuel k k' (b.drop (takeK b)) (by omega) (by omega)]
    · rfl

theorem scan_bad {b : List UInt8} (h : takeE b ≠ 0) : scanL b = ([], 0) := by
  unfold scanL
  cases b.length with
  | zero => rfl
  | succ k => rw [scanF, if_neg h]

theorem scan_good {b : List UInt8} (h : takeE b = 0) : scanL b = (takeV b :: (scanL (b.drop (takeK b))).1, takeK b + (scanL (b.drop (takeK b))).2) := by
  obtain ⟨h8, hl⟩ := take_le h
  have hd : (b.drop (takeK b)).length = b.length - takeK b := List.length_drop
  unfold scanL
  obtain ⟨k, hk⟩ : ∃ k, b.length = k + 1 := ⟨b.length - 1, by omega⟩
  rw [hk, scanF, if_pos h, scanF_fuel k (b.drop (takeK b)).length _ (by omega) (Nat.le_refl _)]

/-- Records one behind the other. -/
def catL (l : List (List UInt8)) : List UInt8 := (l.map putB).flatten

theorem catL_cons (p : List UInt8) (l : List (List UInt8)) : catL (p :: l) = putB p ++ catL l := rfl
theorem catL_append (l l' : List (List UInt8)) : catL (l ++ l') = catL l ++ catL l' := by simp [catL]

/-- Cut off, those are there that are whole. -/
theorem scan_cut : ∀ (l : List (List UInt8)), (∀ p ∈ l, p.length ≤ 1048576) → ∀ (k m : Nat), (catL (l.take k)).length ≤ m → (k < l.length → m < (catL (l.take (k + 1))).length) → k ≤ l.length → scanL ((catL l).take m) = (l.take k, (catL (l.take k)).length)
  | [], _, k, m, _, _, hk => by
    obtain rfl : k = 0 := by simpa using hk
    rw [show (catL []).take m = [] from by simp [catL], scan_bad (by rw [takeE_short (by simp)]; omega)]
    rfl
  | p :: l, hl, 0, m, _, h2, _ => by
    have hp := hl p (by simp)
    have h3 := h2 (by simp)
    rw [show (p :: l).take (0 + 1) = [p] from rfl, show catL [p] = putB p by simp [catL]] at h3
    rw [catL_cons, List.take_append_of_le_length (by omega), scan_bad (by rw [put_cut p m hp h3]; omega)]
    rfl
  | p :: l, hl, k + 1, m, h1, h2, hk => by
    have hp := hl p (by simp)
    have e1 : catL ((p :: l).take (k + 1)) = putB p ++ catL (l.take k) := by rw [List.take_succ_cons, catL_cons]
    rw [e1, List.length_append] at h1
    have hm : (catL (p :: l)).take m = putB p ++ (catL l).take (m - (putB p).length) := by
      rw [catL_cons, List.take_append, List.take_of_length_le (by omega)]
    obtain ⟨b1, b2, b3⟩ := put_back p ((catL l).take (m - (putB p).length)) hp
    have hdrop : (putB p ++ (catL l).take (m - (putB p).length)).drop (8 + p.length) = (catL l).take (m - (putB p).length) := by
      rw [← putB_len, List.drop_append_of_le_length (by omega), List.drop_of_length_le (by omega), List.nil_append]
    have ih := scan_cut l (fun q hq => hl q (by simp [hq])) k (m - (putB p).length) (by omega) (fun hlt => by
      have h3 := h2 (by simp; omega)
      rw [show (p :: l).take (k + 1 + 1) = p :: l.take (k + 1) from rfl, catL_cons, List.length_append] at h3
      omega) (by simpa using hk)
    rw [hm, scan_good b1, b2, b3, hdrop, ih, e1, List.length_append, putB_len]
    rfl
end Go.Proofs.Ythhpddiicnjmmaa
