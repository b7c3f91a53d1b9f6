/- Plain facts on requests: which may be, as the code looks and as the document says. No walk. -/
import Derived.Test.YtmnjjmgdeiejkaaTypesB
import Derived.Lib.Hide
namespace Go.Proofs.Ytmnjjmgdeiejkaa

/-- What a request may be by itself, behind another one's At. -/
def oneB (r : Req) (ahead : Int) : Bool := decide (0 ≤ r.table ∧ r.table < 8 ∧ 1 ≤ r.weight ∧ r.weight ≤ 8 ∧ ahead ≤ r.at_ ∧ 1 ≤ r.at_ ∧ r.at_ ≤ 1099511627776 ∧ 0 ≤ r.cursor ∧ r.cursor ≤ 1099511627776 ∧ 0 ≤ r.chunks ∧ r.chunks ≤ 1099511627776)

/-- The last At. -/
def aheadOf (pre : List Req) : Int := match pre.getLast? with | some r => r.at_ | none => 0

/-- Is the table's last request not done? -/
def openAt (pre : List Req) (t : Int) : Bool := pre.foldl (fun o r => if r.table = t then !r.done else o) false

def stepOk (pre : List Req) (x : Req) : Bool := decide (x.id = (pre.length : Int) + 1) && (oneB x (aheadOf pre) && !openAt pre x.table)

def okFrom (pre : List Req) : List Req → Bool
  | [] => true
  | x :: t => stepOk pre x && okFrom (pre ++ [x]) t

/-- May requests be? -/
def mayB (l : List Req) : Bool := okFrom [] l && decide (l.length ≤ 64)

theorem openAt_snoc (pre : List Req) (x : Req) (t : Int) : openAt (pre ++ [x]) t = if x.table = t then !x.done else openAt pre t := by
  unfold openAt; rw [List.foldl_append]; rfl

theorem aheadOf_snoc (pre : List Req) (x : Req) : aheadOf (pre ++ [x]) = x.at_ := by
  unfold aheadOf; simp

theorem okFrom_append : ∀ (l l' pre : List Req), okFrom pre (l ++ l') = (okFrom pre l && okFrom (pre ++ l) l')
  | [], l', pre => by simp [okFrom]
  | x :: t, l', pre => by rw [List.cons_append, okFrom, okFrom, okFrom_append t, Bool.and_assoc]; simp

theorem okFrom_take {l : List Req} {k : Nat} {x : Req} (hx : l[k]? = some x) : okFrom [] (l.take (k + 1)) = (okFrom [] (l.take k) && stepOk (l.take k) x) := by
  have hk : k < l.length := (List.getElem?_eq_some_iff.1 hx).1
  rw [List.getElem?_eq_getElem hk] at hx
  rw [List.take_succ_eq_append_getElem hk, okFrom_append, Option.some.inj hx, List.nil_append]
  simp [okFrom]

theorem okFrom_false {l : List Req} {k : Nat} (h : okFrom [] (l.take k) = false) : okFrom [] l = false := by
  have := okFrom_append (l.take k) (l.drop k) []
  rw [List.take_append_drop, h] at this
  simpa using this

/-! ### As the document says -/
/-- Is there a request for that table that is not done? -/
def clash (pre : List Req) (t : Int) : Bool := pre.any fun r => decide (r.table = t) && !r.done

theorem clash_snoc (pre : List Req) (x : Req) (t : Int) : clash (pre ++ [x]) t = (clash pre t || (decide (x.table = t) && !x.done)) := by
  unfold clash; simp

/-- Where all so far may be, the two tell the same. -/
theorem open_clash : ∀ (pre : List Req), okFrom [] pre = true → ∀ t, openAt pre t = clash pre t := by
  intro pre
  suffices h : ∀ (n : Nat) (pre : List Req), pre.length = n → okFrom [] pre = true → ∀ t, openAt pre t = clash pre t from h _ pre rfl
  intro n
  induction n with
  | zero => intro pre hp _ t; have := List.eq_nil_of_length_eq_zero hp; subst this; rfl
  | succ n ih =>
    intro pre hp hok t
    have hne : pre ≠ [] := by rintro rfl; simp at hp
    obtain ⟨q, x, rfl⟩ : ∃ q x, pre = q ++ [x] := ⟨pre.dropLast, pre.getLast hne, (List.dropLast_concat_getLast hne).symm⟩
    rw [okFrom_append, List.nil_append] at hok
    simp only [okFrom, Bool.and_true, Bool.and_eq_true] at hok
    have hq := ih q (by simp at hp; exact hp) hok.1
    rw [openAt_snoc, clash_snoc, hq t]
    by_cases hx : x.table = t
    · rw [if_pos hx]
      have h2 : openAt q x.table = false := by
        have := hok.2
        unfold stepOk at this
        simp at this
        exact this.2.2
      rw [hq, hx] at h2
      simp [hx, h2]
    · rw [if_neg hx]
      simp [hx]

def refStep (pre : List Req) (x : Req) : Bool := decide (x.id = (pre.length : Int) + 1) && (oneB x (aheadOf pre) && !clash pre x.table)

def refFrom (pre : List Req) : List Req → Bool
  | [] => true
  | x :: t => refStep pre x && refFrom (pre ++ [x]) t

theorem refFrom_append : ∀ (l l' pre : List Req), refFrom pre (l ++ l') = (refFrom pre l && refFrom (pre ++ l) l')
  | [], l', pre => by simp [refFrom]
  | x :: t, l', pre => by rw [List.cons_append, refFrom, refFrom, refFrom_append t, Bool.and_assoc]; simp

theorem ref_ok : ∀ (l pre : List Req), okFrom [] pre = true → refFrom pre l = okFrom pre l
  | [], _, _ => rfl
  | x :: t, pre, h => by
    have h1 : refStep pre x = stepOk pre x := by unfold refStep stepOk; rw [open_clash pre h]
    rw [refFrom, okFrom, h1]
    cases hs : stepOk pre x with
    | false => rfl
    | true =>
      rw [Bool.true_and, Bool.true_and]
      refine ref_ok t (pre ++ [x]) ?_
      rw [okFrom_append, h, List.nil_append]
      simp [okFrom, hs]

theorem refFrom_take {l : List Req} {k : Nat} {x : Req} (hx : l[k]? = some x) : refFrom [] (l.take (k + 1)) = (refFrom [] (l.take k) && refStep (l.take k) x) := by
  have hk : k < l.length := (List.getElem?_eq_some_iff.1 hx).1
  rw [List.getElem?_eq_getElem hk] at hx
  rw [List.take_succ_eq_append_getElem hk, refFrom_append, Option.some.inj hx, List.nil_append]
  simp [refFrom]

theorem refFrom_false {l : List Req} {k : Nat} (h : refFrom [] (l.take k) = false) : refFrom [] l = false := by
  have := refFrom_append (l.take k) (l.drop k) []
  rw [List.take_append_drop, h] at this
  simpa using this

theorem ref_all (l : List Req) : refFrom [] l = okFrom [] l := ref_ok l [] rfl
end Go.Proofs.Ytmnjjmgdeiejkaa
