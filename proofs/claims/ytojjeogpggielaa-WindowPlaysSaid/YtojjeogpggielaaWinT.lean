/- Contract: the law's rows. -/
import Derived.Test.YtojjeogpggielaaWinS
import Derived.Test.YtojjeogpggielaaTxn15
set_option linter.unusedVariables false
set_option linter.unusedSimpArgs false
namespace Go.Proofs.Ytojjeogpggielaa
open Go.RowKit

/-- Rising rows behind a key, of any ones. -/
def rowsL : Int → List Row → List Row
  | _, [] => []
  | k, r :: t => ⟨k + (1 + modOf r.key 3), r.val⟩ :: rowsL (k + (1 + modOf r.key 3)) t

theorem rowsL_snoc (r : Row) : ∀ (a : List Row) (k : Int), rowsL k (a ++ [r]) = rowsL k a ++ [⟨lastKey (rowsL k a) k + (1 + modOf r.key 3), r.val⟩]
  | [], k => by rw [List.nil_append, rowsL, rowsL, rowsL, lastKey_nil]; rfl
  | x :: t, k => by rw [List.cons_append, rowsL, rowsL, rowsL_snoc r t, lastKey_cons]; rfl

theorem rowsL_len : ∀ (l : List Row) (k : Int), (rowsL k l).length = l.length
  | [], _ => rfl
  | _ :: t, k => by rw [rowsL, List.length_cons, rowsL_len t, List.length_cons]

theorem rowsL_last : ∀ (l : List Row) (k : Int), k ≤ lastKey (rowsL k l) k ∧ lastKey (rowsL k l) k ≤ k + 3 * l.length
  | [], k => by rw [rowsL, lastKey_nil]; simp
  | r :: t, k => by
    rw [rowsL, lastKey_cons]
    have h := rowsL_last t (k + (1 + modOf r.key 3))
    have h2 := modOf_range r.key 3 (by omega)
    dsimp only
    rw [List.length_cons]
    omega

theorem rowsL_rising : ∀ (l : List Row) (k : Int), k + 3 * l.length ≤ 1099511627776 → rising k (rowsL k l) = true
  | [], _, _ => rfl
  | r :: t, k, h => by
    have h2 := modOf_range r.key 3 (by omega)
    rw [List.length_cons] at h
    have h3 := rowsL_rising t (k + (1 + modOf r.key 3)) (by omega)
    show (decide (k < k + (1 + modOf r.key 3) ∧ k + (1 + modOf r.key 3) ≤ 1099511627776) && rising (k + (1 + modOf r.key 3)) (rowsL (k + (1 + modOf r.key 3)) t)) = true
    rw [h3, decide_eq_true (by omega)]
    rfl

theorem rowsL_wf : ∀ (l : List Row) (k : Int), (∀ r ∈ l, r.wf) → 0 ≤ k → k + 3 * l.length < 9223372036854775807 → ∀ r ∈ rowsL k l, r.wf
  | [], _, _, _, _ => by intro r hr; simp [rowsL] at hr
  | x :: t, k, hw, h0, h => by
    have h2 := modOf_range x.key 3 (by omega)
    rw [List.length_cons] at h
    intro r hr
    rw [rowsL, List.mem_cons] at hr
    rcases hr with rfl | hr
    · exact ⟨⟨by dsimp only; omega, by dsimp only; omega⟩, (hw x (List.mem_cons_self ..)).2⟩
    · exact rowsL_wf t _ (fun r hr => hw r (List.mem_cons_of_mem _ hr)) (by omega) (by omega) r hr

set_option maxHeartbeats 8000000 in
set_option maxRecDepth 100000 in
theorem rows26_any (A : Option Addr) (n c : Nat) (l : List Row) (a : Int) (m : Nat) (mi : Int) (hmi : mi = (m : Int)) (w : World) (h : IsSl rowRep w (· < w.heap.size) A n l) (ha : 0 ≤ a ∧ a ≤ 1099511627776) (hm : m ≤ 100) (hn : n ≤ maxLen) :
    Calls Try.prog 33 #[.slice A n c, .int .i64 a, .int .i64 mi] w fun e w' => ∃ v, e = .returned v ∧ Own rowRep w' w.heap.size (fun _ => False) 55 v (rowsL a (l.take m)) ∧ Below w.heap.size w w' := by
  subst hmi
  obtain ⟨i0, hi, hz0, hz1, hz2⟩ := info_parts info_row
  have H := Lib.hid h
  have HL := Lib.hid h.len
  clear h
  go_enter Try.func33, Try.ntmps33
  go_wp2_with fail
  go_loopw [7, 8, 9] (fun v k i wr => ∃ p : Nat, i = .int .i64 p ∧ p ≤ n ∧ p ≤ m ∧ k = .int .i64 (lastKey (rowsL a (l.take p)) a) ∧ Own rowRep wr w.heap.size (fun _ => False) 55 v (rowsL a (l.take p)) ∧ Below w.heap.size w wr) (fun _ _ i _ => m - (intOf i).toNat)
  case atStart => exact ⟨0, rfl, Nat.zero_le _, Nat.zero_le _, by simp [rowsL, lastKey_nil], Own.nil _ _ _ (fun _ h => h.elim) _ none, Below.refl _ _⟩
  case round =>
    obtain ⟨p, rfl, hp, hpm, rfl, hown, hbel⟩ := hrel
    have OW := Lib.hid hown
    have B := Lib.hid hbel
    have hrl := rowsL_last (l.take p) a
    have hll : (rowsL a (l.take p)).length = p := by rw [rowsL_len, List.length_take, ← HL.out]; omega
    have hlt2 : (l.take p).length = p := by rw [List.length_take, ← HL.out]; omega
    rw [hlt2] at hrl
    clear hown hbel
    by_cases hlt : p < n
    · have hd : decide ((p : Int) < (n : Int)) = true := decide_eq_true (by omega)
      have hdn : decide (p < n) = true := decide_eq_true hlt
      by_cases hltm : p < m
      · have hd2 : decide ((p : Int) < (m : Int)) = true := decide_eq_true (by omega)
        have hdn2 : decide (p < m) = true := decide_eq_true hltm
        have hp0 : (0 : Int) ≤ (p : Int) := by omega
        have hpn : (p : Int) < (n : Int) := by omega
        obtain ⟨b0, off, y, rfl, hb0, hy, hwf, q0, q1⟩ := H.out.row hlt (fun q hq => B.out.cell hq)
        have hS := rowsL_snoc y (l.take p) a
        rw [← take_snoc hy] at hS
        obtain ⟨q, hq⟩ : ∃ q, q = lastKey (rowsL a (l.take p)) a := ⟨_, rfl⟩
        rw [← hq] at hS hrl ⊢
        obtain ⟨acc, hacc⟩ : ∃ acc, acc = rowsL a (l.take p) := ⟨_, rfl⟩
        rw [← hacc] at OW hS hll
        have hr3 := modOf_range y.key 3 (by omega)
        obtain ⟨d, hdd⟩ : ∃ d, d = modOf y.key 3 := ⟨_, rfl⟩
        rw [← hdd] at hr3 hS
        obtain ⟨hr3a, hr3b⟩ := hr3
        obtain ⟨hrla, hrlb⟩ := hrl
        have HS := Lib.hid hS
        have HDD := Lib.hid hdd
        have HWF := Lib.hid (show (⟨q + (1 + d), y.val⟩ : Row).wf from ⟨⟨by dsimp only; omega, by dsimp only; omega⟩, hwf.2⟩)
        obtain ⟨yk, yv⟩ := y
        dsimp only at q0 q1 HDD HWF HS
        clear hS hdd hwf hy hq hacc
        go_wp2_with (first
          | (go_at_call 19; (with_reducible refine (big_any yk 3 _ (by omega) (by omega)).mono ?_); rintro e w' ⟨rfl, rfl⟩; rw [← HDD.out])
          | (at_builtin; refine wpList_append_Own _ rfl _ _ 34 rfl w.heap.size 55 i0 _ 24 Try.underlying34 hi hz0 hz1 hz2 rfl (R := rowRep) (S := fun _ => False) (l := acc) (l' := [⟨q + (1 + d), yv⟩]) u7 rfl (OW.out.alloc _) _ 1 1 rfl (Src.new (cs := [.int .i64 (q + (1 + d)), .string yv]) ⟨rfl, HWF.out⟩) (by simp only [maxLen]; omega) (by omega) (by omega) (by have := B.out.size; simp; omega) ?_; intro v4 w4 own4 gr4 at4; have OW4 := Lib.hid own4; have B4 := Lib.hid ((B.out.alloc B.out.size _).grown gr4 (by have := B.out.size; simp; omega) (fun k hk => by have := OW.out.row_ge hk; omega)); clear own4 gr4 at4)
          | fail)
        go_roundw
        case rel => exact ⟨p + 1, by go_num, by omega, by omega, by rw [HS.out, lastKey_snoc], by rw [HS.out]; exact OW4.out, B4.out⟩
        case measure => simp [intOf]; omega
      · have hd2 : decide ((p : Int) < (m : Int)) = false := decide_eq_false (by omega)
        have hdn2 : decide (p < m) = false := decide_eq_false hltm
        obtain rfl : p = m := by omega
        go_wp2_with fail
        go_ret
        exact ⟨_, rfl, OW.out, B.out⟩
    · have hd : decide ((p : Int) < (n : Int)) = false := decide_eq_false (by omega)
      have hdn : decide (p < n) = false := decide_eq_false hlt
      obtain rfl : p = n := by omega
      have HE := Lib.hid (show l.take p = l.take m by rw [List.take_of_length_le (by rw [← HL.out]; exact Nat.le_refl _), List.take_of_length_le (by rw [← HL.out]; omega)])
      go_wp2_with fail
      go_ret
      rw [← HE.out]
      exact ⟨_, rfl, OW.out, B.out⟩
end Go.Proofs.Ytojjeogpggielaa
