/- Plain facts on fields as bytes: what is encoded, what is decoded, as lists of bytes. No walk. -/
import Derived.Test.YthhpddiicnjmmaaTypesF
namespace Go.Proofs.Ythhpddiicnjmmaa
open Go.RowKit

/-- So many bytes of a number, the highest first. -/
def bigB (x : Nat) : Nat → List UInt8
  | 0 => []
  | n + 1 => UInt8.ofNat (x / 256 ^ n) :: bigB x n

theorem bigB_len (x : Nat) : ∀ n, (bigB x n).length = n
  | 0 => rfl
  | n + 1 => by rw [bigB, List.length_cons, bigB_len x n]

/-- A number of bytes, the highest first. -/
def numB (l : List UInt8) : Nat := l.foldl (fun x c => x * 256 + c.toNat) 0

theorem numB_snoc (l : List UInt8) (c : UInt8) : numB (l ++ [c]) = numB l * 256 + c.toNat := by unfold numB; rw [List.foldl_append]; rfl

theorem numB_lt (l : List UInt8) : numB l < 256 ^ l.length := by
  suffices h : ∀ (n : Nat) (l : List UInt8), l.length = n → numB l < 256 ^ n from h _ l rfl
  intro n
  induction n with
  | zero => intro l hl; obtain rfl := List.eq_nil_of_length_eq_zero hl; simp [numB]
  | succ n ih =>
    intro l hl
    have hne : l ≠ [] := by rintro rfl; simp at hl
    obtain ⟨q, x, rfl⟩ : ∃ q x, l = q ++ [x] := ⟨l.dropLast, l.getLast hne, (List.dropLast_concat_getLast hne).symm⟩
    have := ih q (by simp at hl; exact hl)
    have hx : x.toNat < 256 := x.toNat_lt
    rw [numB_snoc, Nat.pow_succ]
    omega

/-- What a field may be. -/
def okField (f : Fld) : Bool := (f.kind == 1 && f.s.size == 0) || (f.kind == 2 && f.n == 0 && decide (f.s.size ≤ 4096))

/-- An int64 as a uint64. -/
def asU64 (n : Int) : Nat := (n % 18446744073709551616).toNat

/-- A field's bytes. -/
def encF (f : Fld) : List UInt8 := if f.kind = 1 then 1 :: bigB (asU64 f.n) 8 else 2 :: (bigB f.s.size 2 ++ f.s.data.toList)

def encL (l : List Fld) : List UInt8 := l.flatMap encF

theorem encL_snoc (l : List Fld) (f : Fld) : encL (l ++ [f]) = encL l ++ encF f := by unfold encL; simp

theorem encF_len {f : Fld} (h : okField f = true) : (encF f).length ≤ 4099 := by
  unfold okField at h
  unfold encF
  simp at h
  rcases h with ⟨h1, h2⟩ | ⟨⟨h1, h2⟩, h3⟩
  · rw [if_pos h1]; simp [bigB_len]
  · rw [if_neg (by omega)]; simp [bigB_len]; omega

theorem encL_len : ∀ {l : List Fld}, l.all okField = true → (encL l).length ≤ 4099 * l.length
  | [], _ => by simp [encL]
  | f :: t, h => by
    simp at h
    have h1 := encF_len h.1
    have h2 := encL_len (l := t) (by simpa using h.2)
    unfold encL at h2 ⊢
    rw [List.flatMap_cons, List.length_append, List.length_cons]
    omega

/-- What is encoded (none: refused). -/
def encO (l : List Fld) : Option (List UInt8) := if l.length ≤ 32767 ∧ l.all okField = true then some (bigB l.length 2 ++ encL l) else none

/-- The field at the front: an error's number, or the field and what is behind it. -/
def decF : List UInt8 → Except Int (Fld × List UInt8)
  | [] => .error 2
  | k :: t =>
    if k = 1 then (if t.length < 8 then .error 2 else .ok (⟨1, wrap64 (numB (t.take 8) : Int), ByteArray.empty⟩, t.drop 8))
    else if k = 2 then
      (if t.length < 2 then .error 2 else if 4096 < numB (t.take 2) then .error 3 else if (t.drop 2).length < numB (t.take 2) then .error 2
       else .ok (⟨2, 0, ⟨((t.drop 2).take (numB (t.take 2))).toArray⟩⟩, (t.drop 2).drop (numB (t.take 2))))
    else .error 3

/-- So many fields, and nothing behind them. -/
def decN : Nat → List UInt8 → List Fld → Except Int (List Fld)
  | 0, b, acc => if b = [] then .ok acc else .error 3
  | i + 1, b, acc => match decF b with
    | .error e => .error e
    | .ok (f, r) => decN i r (acc ++ [f])

/-- What is decoded. -/
def decO (b : List UInt8) : Except Int (List Fld) :=
  if b.length < 2 then .error 2 else if 32767 < numB (b.take 2) then .error 3 else decN (numB (b.take 2)) (b.drop 2) []

end Go.Proofs.Ythhpddiicnjmmaa
