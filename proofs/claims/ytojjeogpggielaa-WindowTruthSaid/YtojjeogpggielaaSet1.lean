/- Contracts of the reference's rows (qanatref07): Put, Del, Get, After. -/
import Derived.Test.YtojjeogpggielaaHit
import Derived.Test.YtojjeogpggielaaPutR
set_option linter.unusedVariables false
set_option linter.unusedSimpArgs false
set_option maxRecDepth 100000
namespace Go.Proofs.Ytojjeogpggielaa
open Go.RowKit

def delL : List Row → Int → List Row
  | [], _ => []
  | r :: t, k => if r.key = k then t else r :: delL t k
def getL : List Row → Int → Option ByteArray
  | [], _ => none
  | r :: t, k => if r.key = k then some r.val else getL t k
def afterL (l : List Row) (k : Int) (n : Nat) : List Row := (l.filter (fun r => decide (k < r.key))).take n

theorem delL_at : ∀ (l : List Row) (k : Int) (p : Nat) (x : Row), l[p]? = some x → x.key = k → (∀ r ∈ l.take p, ¬ r.key = k) → delL l k = l.take p ++ l.drop (p + 1)
  | [], k, p, x, hp, _, _ => by simp at hp
  | r :: t, k, 0, x, hp, hx, _ => by
    obtain rfl : r = x := by simpa using hp
    rw [delL, if_pos hx]; rfl
  | r :: t, k, p + 1, x, hp, hx, ha => by
    rw [delL, if_neg (ha r (by simp)), delL_at t k p x (by simpa using hp) hx (fun y hy => ha y (by simp [hy]))]
    simp
theorem delL_none : ∀ (l : List Row) (k : Int), (∀ r ∈ l, ¬ r.key = k) → delL l k = l
  | [], _, _ => rfl
  | r :: t, k, h => by rw [delL, if_neg (h r (by simp)), delL_none t k (fun x hx => h x (by simp [hx]))]
theorem getL_at : ∀ (l : List Row) (k : Int) (p : Nat) (x : Row), l[p]? = some x → x.key = k → (∀ r ∈ l.take p, ¬ r.key = k) → getL l k = some x.val
  | [], k, p, x, hp, _, _ => by simp at hp
  | r :: t, k, 0, x, hp, hx, _ => by
    obtain rfl : r = x := by simpa using hp
    rw [getL, if_pos hx]
  | r :: t, k, p + 1, x, hp, hx, ha => by
    rw [getL, if_neg (ha r (by simp)), getL_at t k p x (by simpa using hp) hx (fun y hy => ha y (by simp [hy]))]
theorem getL_none : ∀ (l : List Row) (k : Int), (∀ r ∈ l, ¬ r.key = k) → getL l k = none
  | [], _, _ => rfl
  | r :: t, k, h => by rw [getL, if_neg (h r (by simp)), getL_none t k (fun x hx => h x (by simp [hx]))]

set_option maxHeartbeats 4000000 in
set_option maxRecDepth 100000 in
theorem refget_any (A : Option Addr) (n c : Nat) (l : List Row) (key : Int) (w : World) (U : Nat → Prop) (h : IsSl rowRep w U A n l) (hm : n ≤ maxLen) :
    Calls Try.prog 29 #[.slice A n c, .int .i64 key] w fun e w' => e = .returned (.tuple #[.string ((getL l key).getD ByteArray.empty), .bool (getL l key).isSome]) ∧ w = w' := by
  unfold maxLen at hm
  have H := Lib.hid h
  have HN := Lib.hid h.len
  clear h
  go_enter Try.func29, Try.ntmps29
  go_wp2
  go_loop [6] (fun i => ∃ p : Nat, i = .int .i64 p ∧ p ≤ n ∧ ∀ r ∈ l.take p, ¬ r.key = key) (fun i => n - (intOf i).toNat)
  case atStart => exact ⟨0, rfl, Nat.zero_le _, by simp⟩
  case round =>
    obtain ⟨p, rfl, hp, hall⟩ := hrel
    have HALL := Lib.hid hall
    clear hall
    by_cases hlt : p < n
    · have hd : decide ((p : Int) < (n : Int)) = true := decide_eq_true (by omega)
      have hpi : (p : Int) < (n : Int) := by omega
      obtain ⟨b0, off, x, rfl, hb, hx, hwf, k0, k1⟩ := H.out.row hlt (fun q hq => rfl)
      have HX := Lib.hid hx
      obtain ⟨xk, xv⟩ := x
      dsimp only at k0 k1
      clear hx
      by_cases e : xk = key
      · have d1 : (xk == key) = true := by simpa using e
        have HG := Lib.hid (show getL l key = some xv from getL_at l key p ⟨xk, xv⟩ HX.out e HALL.out)
        clear e
        go_wp2
        go_ret2
        rw [HG.out]
        exact ⟨rfl, rfl⟩
      · have d1 : (xk == key) = false := by simpa using e
        have HS := Lib.hid (show ∀ r ∈ l.take (p + 1), ¬ r.key = key by
          rw [take_snoc HX.out]
          intro r hr
          rcases List.mem_append.1 hr with hr | hr
          · exact HALL.out r hr
          · obtain rfl : r = ⟨xk, xv⟩ := by simpa using hr
            exact e)
        clear e
        go_wp2
        go_round
        case rel => exact ⟨p + 1, by go_num, by omega, HS.out⟩
        case measure => simp [intOf]; omega
    · obtain rfl : p = n := by omega
      have hd : decide ((p : Int) < (p : Int)) = false := by simp
      have HG := Lib.hid (show getL l key = none from getL_none l key (by have := HALL.out; rw [List.take_of_length_le (by rw [← HN.out]; exact Nat.le_refl _)] at this; exact this))
      go_wp2
      go_ret2
      rw [HG.out]
      exact ⟨rfl, rfl⟩

set_option maxHeartbeats 4000000 in
set_option maxRecDepth 100000 in
theorem refafter_any (A : Option Addr) (n c : Nat) (l : List Row) (key : Int) (m : Nat) (mi : Int) (hmi : mi = (m : Int)) (w : World) (U : Nat → Prop) (hU : ∀ k, U k → k < w.heap.size) (h : IsSl rowRep w U A n l) (hm : n ≤ 100000) :
    Calls Try.prog 22 #[.slice A n c, .int .i64 key, .int .i64 mi] w fun e w' => ∃ v, e = .returned v ∧ Own rowRep w' w.heap.size (fun _ => False) 55 v (afterL l key m) ∧ Below w.heap.size w w' := by
  subst hmi
  obtain ⟨i0, hi, hz0, hz1, hz2⟩ := info_parts info_row
  have H := Lib.hid h
  have HN := Lib.hid h.len
  have HU := Lib.hid hU
  clear h hU
  go_enter Try.func22, Try.ntmps22
  go_wp2_with fail
  go_loopw [7, 8] (fun v i wr => ∃ p q : Nat, i = .int .i64 p ∧ p ≤ n ∧ q ≤ m ∧ q = ((l.take p).filter (fun r => decide (key < r.key))).length ∧ Own rowRep wr w.heap.size (fun _ => False) 55 v ((l.take p).filter (fun r => decide (key < r.key))) ∧ Below w.heap.size w wr) (fun _ i _ => n - (intOf i).toNat)
  case atStart => exact ⟨0, 0, rfl, Nat.zero_le _, Nat.zero_le _, rfl, Own.nil _ _ _ (fun _ h => h.elim) _ none, Below.refl _ _⟩
  case round =>
    obtain ⟨p, q, rfl, hp, hq, hql, hown, hbel⟩ := hrel
    have OW := Lib.hid hown
    have B := Lib.hid hbel
    have HQL := Lib.hid hql
    obtain ⟨Av, cv, hv, _, _, _⟩ := hown.isSlB
    obtain ⟨acc, hacc⟩ : ∃ acc, acc = (l.take p).filter (fun r => decide (key < r.key)) := ⟨_, rfl⟩
    rw [← hacc] at OW hv hql
    have HACC := Lib.hid hacc
    rw [← hql] at hv
    subst hv
    have hsz := hbel.size
    have hq1 : q ≤ n := by
      have h1 := List.length_filter_le (fun r : Row => decide (key < r.key)) (l.take p)
      rw [List.length_take] at h1
      have h2 := HQL.out
      omega
    clear hown hbel hacc hql
    by_cases hlt : p < n
    · have hd : decide ((p : Int) < (n : Int)) = true := decide_eq_true (by omega)
      have hpi : (p : Int) < (n : Int) := by omega
      by_cases hlq : q < m
      · have hd2 : decide ((q : Int) < (m : Int)) = true := decide_eq_true (by omega)
        obtain ⟨b0, off, x, rfl, hb, hx, hwf, k0, k1⟩ := H.out.row hlt (fun r hr => B.out.cell (HU.out _ hr))
        have hbw : b0 < w.heap.size := HU.out _ hb
        have HTK := Lib.hid (take_snoc hx)
        have HWF := Lib.hid hwf
        obtain ⟨xk, xv⟩ := x
        dsimp only at k0 k1
        clear hx hwf hb
        by_cases e : key < xk
        · have d1 : decide (key < xk) = true := decide_eq_true e
          have HE := Lib.hid (show List.filter (fun r : Row => decide (key < r.key)) [⟨xk, xv⟩] = [⟨xk, xv⟩] by rw [List.filter_cons, if_pos d1]; rfl)
          have hle : acc.length ≤ 100000 := by have := HQL.out; rw [← HACC.out] at this; omega
          have HLE := Lib.hid (show acc.length = q by rw [HACC.out]; exact HQL.out.symm)
          clear e
          go_wp2_with (first
            | (at_builtin; refine wpList_append_Own _ rfl _ _ 34 rfl w.heap.size 55 i0 _ 24 Try.underlying34 hi hz0 hz1 hz2 rfl (R := rowRep) (S := fun _ => False) (l := acc) (l' := [⟨xk, xv⟩]) (.slice Av q cv) rfl (OW.out.alloc _) _ 1 1 rfl (Src.new (cs := [.int .i64 xk, .string xv]) ⟨rfl, HWF.out⟩) (by simp only [maxLen]; omega) (by omega) (by omega) (by simp; omega) ?_; intro v4 w4 own4 gr4 at4; have OW4 := Lib.hid own4; have B4 := Lib.hid ((B.out.alloc B.out.size _).grown gr4 (by simp; omega) (fun k hk => OW.out.row_ge hk)); clear own4 gr4 at4)
            | fail)
          go_roundw
          case rel => exact ⟨p + 1, q + 1, by go_num, by omega, by omega, by rw [HTK.out, List.filter_append, HE.out, ← HACC.out, List.length_append, HLE.out]; rfl, by rw [HTK.out, List.filter_append, HE.out, ← HACC.out]; exact OW4.out, B4.out⟩
          case measure => simp [intOf]; omega
        · have d1 : decide (key < xk) = false := decide_eq_false e
          have HE := Lib.hid (show List.filter (fun r : Row => decide (key < r.key)) [⟨xk, xv⟩] = [] by rw [List.filter_cons, if_neg (by rw [d1]; exact Bool.false_ne_true)]; rfl)
          clear e
          go_wp2_with fail
          go_roundw
          case rel => exact ⟨p + 1, q, by go_num, by omega, hq, by rw [HTK.out, List.filter_append, HE.out, List.append_nil]; exact HQL.out, by rw [HTK.out, List.filter_append, HE.out, List.append_nil, ← HACC.out]; exact OW.out, B.out⟩
          case measure => simp [intOf]; omega
      · have hd2 : decide ((q : Int) < (m : Int)) = false := decide_eq_false (by omega)
        have HF := Lib.hid (show afterL l key m = acc by
          have hqm : q = m := by omega
          unfold afterL
          have h1 : l.filter (fun r => decide (key < r.key)) = (l.take p).filter (fun r => decide (key < r.key)) ++ (l.drop p).filter (fun r => decide (key < r.key)) := by rw [← List.filter_append, List.take_append_drop]
          rw [h1, ← HACC.out, ← hqm, List.take_left' (by rw [HACC.out]; exact HQL.out.symm)])
        go_wp2_with fail
        go_ret
        rw [HF.out]
        exact ⟨_, rfl, OW.out, B.out⟩
    · obtain rfl : p = n := by omega
      have hd : decide ((p : Int) < (p : Int)) = false := by simp
      have HF := Lib.hid (show afterL l key m = acc by
        unfold afterL
        have h1 : l.take p = l := List.take_of_length_le (by rw [← HN.out]; exact Nat.le_refl _)
        rw [h1] at HACC
        have h2 := HQL.out
        rw [h1] at h2
        rw [HACC.out]
        exact List.take_of_length_le (by omega))
      go_wp2_with fail
      go_ret
      rw [HF.out]
      exact ⟨_, rfl, OW.out, B.out⟩
end Go.Proofs.Ytojjeogpggielaa
