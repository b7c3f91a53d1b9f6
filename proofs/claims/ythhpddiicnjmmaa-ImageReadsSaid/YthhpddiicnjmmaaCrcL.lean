/- Plain facts on the sum: parts; a turned bit; bits turned within 32 in a row. No walk. -/
import Derived.Test.YthhpddiicnjmmaaCrc
namespace Go.Proofs.Ythhpddiicnjmmaa

theorem moreC_append (s : Nat) (a b : List UInt8) : moreC s (a ++ b) = moreC (moreC s a) b := by
  unfold moreC
  rw [List.foldl_append]
  have e : ∀ z : Nat, 4294967295 ^^^ (z ^^^ 4294967295) = z := fun z => by rw [Nat.xor_comm z, ← Nat.xor_assoc, Nat.xor_self, Nat.zero_xor]
  rw [e]

theorem foldl_more : ∀ (L : List (List UInt8)) (s : Nat), s < 4294967296 → L.foldl moreC s = moreC s L.flatten
  | [], s, h => by
    show s = (4294967295 ^^^ s) ^^^ 4294967295
    rw [Nat.xor_comm, ← Nat.xor_assoc, Nat.xor_self, Nat.zero_xor]
  | a :: L, s, h => by rw [List.foldl_cons, foldl_more L _ (moreC_lt s a h), List.flatten_cons, moreC_append]

/-! ### Linear -/
theorem mod2_xor (a b : Nat) : (a ^^^ b) % 2 = (a % 2 + b % 2) % 2 := by
  have h : (a ^^^ b) % 2 = a % 2 ^^^ b % 2 := Nat.xor_mod_two_pow (n := 1)
  rw [h]
  rcases Nat.mod_two_eq_zero_or_one a with ha | ha <;> rcases Nat.mod_two_eq_zero_or_one b with hb | hb <;> rw [ha, hb] <;> rfl

theorem div2_xor (a b : Nat) : (a ^^^ b) / 2 = a / 2 ^^^ b / 2 := Nat.xor_div_two

theorem shC_xor (a b : Nat) : shC (a ^^^ b) = shC a ^^^ shC b := by
  have h := mod2_xor a b
  unfold shC
  rw [div2_xor]
  rcases Nat.mod_two_eq_zero_or_one a with ha | ha <;> rcases Nat.mod_two_eq_zero_or_one b with hb | hb
  · rw [if_neg (by omega), if_neg (by omega), if_neg (by omega)]
  · rw [if_pos (by omega), if_neg (by omega), if_pos (by omega), Nat.xor_assoc]
  · rw [if_pos (by omega), if_pos (by omega), if_neg (by omega), Nat.xor_assoc, Nat.xor_comm (b / 2), ← Nat.xor_assoc]
  · rw [if_neg (by omega), if_pos (by omega), if_pos (by omega), Nat.xor_assoc, ← Nat.xor_assoc 3988292384, Nat.xor_comm 3988292384 (b / 2), Nat.xor_assoc (b / 2), Nat.xor_self, Nat.xor_zero]

theorem shN_xor : ∀ (n a b : Nat), shN n (a ^^^ b) = shN n a ^^^ shN n b
  | 0, _, _ => rfl
  | n + 1, a, b => by show shC (shN n (a ^^^ b)) = _; rw [shN_xor n, shC_xor]; rfl

theorem shN_add : ∀ (n m c : Nat), shN (n + m) c = shN n (shN m c)
  | 0, m, c => by rw [Nat.zero_add]; rfl
  | n + 1, m, c => by rw [show n + 1 + m = (n + m) + 1 by omega]; show shC (shN (n + m) c) = shC (shN n (shN m c)); rw [shN_add n]

theorem stepC_xor (c d : Nat) (b : UInt8) : stepC (c ^^^ d) b = stepC c b ^^^ shN 8 d := by
  unfold stepC
  rw [← shN_xor]
  congr 1
  rw [Nat.xor_assoc, Nat.xor_comm d, ← Nat.xor_assoc]

theorem fold_xor : ∀ (l : List UInt8) (c d : Nat), l.foldl stepC (c ^^^ d) = l.foldl stepC c ^^^ shN (8 * l.length) d
  | [], _, _ => rfl
  | b :: l, c, d => by
    rw [List.foldl_cons, List.foldl_cons, stepC_xor, fold_xor l, ← shN_add, List.length_cons]
    congr 2

/-! ### Not zero stays not zero -/
theorem shC_zero {c : Nat} (hc : c < 4294967296) (h : shC c = 0) : c = 0 := by
  unfold shC at h
  split at h
  · have : c / 2 = 3988292384 := by
      have h2 := congrArg (· ^^^ 3988292384) h
      simp only [Nat.xor_assoc, Nat.xor_self, Nat.xor_zero, Nat.zero_xor] at h2
      exact h2
    omega
  · omega

theorem shN_zero : ∀ (n : Nat) {c : Nat}, c < 4294967296 → shN n c = 0 → c = 0
  | 0, _, _, h => h
  | n + 1, c, hc, h => shN_zero n hc (shC_zero (shN_lt n c hc) h)

theorem shN_null : ∀ n : Nat, shN n 0 = 0
  | 0 => rfl
  | n + 1 => by show shC (shN n 0) = 0; rw [shN_null n]; rfl

theorem shN_pow : ∀ (k : Nat), shN k (2 ^ k) = 1
  | 0 => rfl
  | k + 1 => by
    rw [shN_add k 1]
    have : shN 1 (2 ^ (k + 1)) = 2 ^ k := by
      show shC (2 ^ (k + 1)) = 2 ^ k
      unfold shC
      rw [Nat.pow_succ, if_neg (by omega)]
      omega
    rw [this, shN_pow k]

/-! ### A bit turned -/
/-- A byte with a bit turned. -/
def flipB (x : UInt8) (r : Nat) : UInt8 := UInt8.ofNat (x.toNat ^^^ 2 ^ r)

theorem flipB_toNat (x : UInt8) (r : Nat) (hr : r < 8) : (flipB x r).toNat = x.toNat ^^^ 2 ^ r := by
  unfold flipB
  rw [UInt8.toNat_ofNat']
  apply Nat.mod_eq_of_lt
  have h2 : 2 ^ r < 2 ^ 8 := Nat.pow_lt_pow_right (by omega) hr
  exact Nat.xor_lt_two_pow (n := 8) x.toNat_lt h2

theorem fold_flip {l : List UInt8} {q r : Nat} {x : UInt8} (hx : l[q]? = some x) (hr : r < 8) (c : Nat) :
    (l.set q (flipB x r)).foldl stepC c = l.foldl stepC c ^^^ shN (8 * l.length - (8 * q + r)) 1 := by
  have hq : q < l.length := (List.getElem?_eq_some_iff.1 hx).1
  have hxq : l[q] = x := by rw [List.getElem?_eq_getElem hq] at hx; exact Option.some.inj hx
  have e1 : l = l.take q ++ x :: l.drop (q + 1) := by
    rw [← hxq, List.getElem_cons_drop hq, List.take_append_drop]
  have e2 : l.set q (flipB x r) = l.take q ++ flipB x r :: l.drop (q + 1) := by
    rw [List.set_eq_take_append_cons_drop, if_pos hq]
  have hs : ∀ y : Nat, stepC y (flipB x r) = stepC y x ^^^ shN (8 - r) 1 := by
    intro y
    unfold stepC
    rw [flipB_toNat x r hr, ← Nat.xor_assoc, shN_xor]
    congr 1
    rw [show 8 = (8 - r) + r by omega, shN_add, shN_pow]
    congr 1
    omega
  rw [e2, List.foldl_append, List.foldl_cons, hs, fold_xor, ← shN_add]
  conv => rhs; arg 1; rw [e1, List.foldl_append, List.foldl_cons]
  congr 2
  simp
  omega

/-! ### Bits turned within 32 in a row -/
/-- The list with bits turned from a place on, as far as k. -/
def Turned (l l' : List UInt8) (at_ bits k : Nat) : Prop :=
  l'.length = l.length ∧ ∀ c, l'.foldl stepC c = l.foldl stepC c ^^^ shN (8 * l.length - at_) (bits % 2 ^ k)

theorem turned_zero (l : List UInt8) (at_ bits : Nat) : Turned l l at_ bits 0 := ⟨rfl, fun c => by rw [Nat.pow_zero, Nat.mod_one, shN_null, Nat.xor_zero]⟩

theorem xor_pow {x k : Nat} (h : x < 2 ^ k) : x ^^^ 2 ^ k = x + 2 ^ k := by
  have h1 : (x ^^^ 2 ^ k) % 2 ^ k = x := by
    rw [Nat.xor_mod_two_pow, Nat.mod_self, Nat.xor_zero, Nat.mod_eq_of_lt h]
  have h2 : (x ^^^ 2 ^ k) / 2 ^ k = 1 := by
    rw [← Nat.shiftRight_eq_div_pow, Nat.shiftRight_xor_distrib, Nat.shiftRight_eq_div_pow, Nat.shiftRight_eq_div_pow, Nat.div_eq_of_lt h, Nat.div_self (Nat.two_pow_pos k), Nat.zero_xor]
  have h3 := Nat.div_add_mod (x ^^^ 2 ^ k) (2 ^ k)
  rw [h1, h2, Nat.mul_one] at h3
  omega

theorem mod_pow_succ (b k : Nat) : b % 2 ^ (k + 1) = b % 2 ^ k ^^^ (b / 2 ^ k % 2) * 2 ^ k := by
  have h := Nat.mod_pow_succ (b := 2) (x := b) (k := k)
  rw [h]
  have hlt : b % 2 ^ k < 2 ^ k := Nat.mod_lt _ (Nat.two_pow_pos k)
  rcases Nat.mod_two_eq_zero_or_one (b / 2 ^ k) with e | e
  · rw [e]; simp
  · rw [e, Nat.mul_one, Nat.one_mul, xor_pow hlt]

theorem turned_skip {l l' : List UInt8} {at_ bits k : Nat} (h : Turned l l' at_ bits k) (hb : bits / 2 ^ k % 2 = 0) : Turned l l' at_ bits (k + 1) := by
  refine ⟨h.1, fun c => ?_⟩
  rw [h.2 c, mod_pow_succ, hb, Nat.zero_mul, Nat.xor_zero]

theorem turned_flip {l l' : List UInt8} {at_ bits k : Nat} {x : UInt8} (h : Turned l l' at_ bits k) (hb : bits / 2 ^ k % 2 = 1) (hx : l'[(at_ + k) / 8]? = some x) (hk : at_ + k < 8 * l.length) :
    Turned l (l'.set ((at_ + k) / 8) (flipB x ((at_ + k) % 8))) at_ bits (k + 1) := by
  refine ⟨by rw [List.length_set]; exact h.1, fun c => ?_⟩
  rw [fold_flip hx (Nat.mod_lt _ (by omega)), h.2 c, mod_pow_succ, hb, Nat.one_mul, shN_xor, Nat.xor_assoc, h.1]
  congr 2
  rw [show 8 * ((at_ + k) / 8) + (at_ + k) % 8 = at_ + k by omega, show 8 * l.length - at_ = (8 * l.length - (at_ + k)) + k by omega, shN_add, shN_pow]

theorem turned_tells {l l' : List UInt8} {at_ bits k : Nat} (h : Turned l l' at_ bits k) (hk : k ≤ 32) : (moreC 0 l = moreC 0 l') ↔ bits % 2 ^ k = 0 := by
  unfold moreC
  rw [h.2]
  have hlt : bits % 2 ^ k < 4294967296 := Nat.lt_of_lt_of_le (Nat.mod_lt _ (Nat.two_pow_pos k)) (Nat.pow_le_pow_right (n := 2) (by omega) hk)
  constructor
  · intro e
    refine shN_zero (8 * l.length - at_) hlt ?_
    have e2 := congrArg (fun z => (l.foldl stepC (4294967295 ^^^ 0)) ^^^ (z ^^^ 4294967295)) e
    simp only [Nat.xor_assoc, Nat.xor_self, Nat.xor_zero] at e2
    rw [← Nat.xor_assoc, Nat.xor_self, Nat.zero_xor] at e2
    exact e2.symm
  · intro e
    rw [e, shN_null]
    simp
end Go.Proofs.Ythhpddiicnjmmaa
