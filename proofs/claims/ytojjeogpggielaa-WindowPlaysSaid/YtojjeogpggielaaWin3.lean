/- Contracts of the window: what See calls of package slices: IndexFunc, DeleteFunc. -/
import Derived.Test.YtojjeogpggielaaWin2
import Derived.Laws.IdiomCopy
set_option linter.unusedVariables false
set_option linter.unusedSimpArgs false
namespace Go.Proofs.Ytojjeogpggielaa
open Go.RowKit

/-- A cell beyond the elements is written. -/
theorem Own.beyond {α : Type} {R : Rep α} {w : World} {base g n cap j : Nat} {S : Nat → Prop} {e : TypeId} {l : List α} (hf : Flat R) (h : Own R w base S e (.slice (some ⟨g, 0, none⟩) n cap) l) (hj : l.length * R.size ≤ j) (u : Value) :
    Own R (w.setCell ⟨g, j, none⟩ u) base S e (.slice (some ⟨g, 0, none⟩) n cap) l := by
  refine ⟨fun b hb => by simpa using h.1 b hb, ?_⟩
  rcases h.2 with ⟨A, hv, rfl⟩ | ⟨g', cap', cur, xss, hv, hbg, hSg, hh, hle, hm, hsz, hr, htake⟩
  · exact .inl ⟨A, hv, rfl⟩
  · injection hv with hA hn hc
    injection hA with hA
    injection hA with hg _ _
    subst hg
    subst hn
    subst hc
    refine .inr ⟨g, cap, cur.setIfInBounds j u, xss, rfl, hbg, hSg, ?_, hle, hm, by rw [Array.size_setIfInBounds]; exact hsz, hr.flat hf, ?_⟩
    · simp [World.setCell, Array.getElem?_modify, hh]
    · rw [← htake, Array.toList_setIfInBounds, List.take_set_of_le hj]

theorem Own.beyonds {α : Type} {R : Rep α} {base g n cap : Nat} {S : Nat → Prop} {e : TypeId} {l : List α} (hf : Flat R) : ∀ (vs : List Value) (j : Nat) (w : World), Own R w base S e (.slice (some ⟨g, 0, none⟩) n cap) l → l.length * R.size ≤ j → Own R (w.setCells g j vs) base S e (.slice (some ⟨g, 0, none⟩) n cap) l
  | [], _, _, h, _ => h
  | v :: r, j, w, h, hj => Own.beyonds hf r (j + 1) _ (h.beyond hf hj v) (by omega)

/-- The elements ahead. -/
theorem Own.front {α : Type} {R : Rep α} {w : World} {base g n cap i : Nat} {S : Nat → Prop} {e : TypeId} {l : List α} (h : Own R w base S e (.slice (some ⟨g, 0, none⟩) n cap) l) (hi : i ≤ n) :
    Own R w base S e (.slice (some ⟨g, 0, none⟩) i cap) (l.take i) := by
  refine ⟨h.1, ?_⟩
  rcases h.2 with ⟨A, hv, rfl⟩ | ⟨g', cap', cur, xss, hv, hbg, hSg, hh, hle, hm, hsz, hr, htake⟩
  · injection hv with hA hn hc
    obtain rfl : i = 0 := by omega
    exact .inl ⟨_, by rw [hc], by simp⟩
  · injection hv with hA hn hc
    injection hA with hA
    injection hA with hg _ _
    subst hg
    subst hn
    subst hc
    have hl : (l.take i).length = i := by rw [List.length_take]; omega
    refine .inr ⟨g, cap, cur, xss.take i, by rw [hl], hbg, hSg, hh, by rw [hl]; omega, hm, hsz, hr.take i, ?_⟩
    rw [hl, flatten_take hr.lens, ← htake, List.take_take]
    congr 1
    have := Nat.mul_le_mul_right R.size hi
    omega

theorem own_row {w : World} {base g n cap k : Nat} {S : Nat → Prop} {e : TypeId} {l : List Row} {x : Row} (h : Own rowRep w base S e (.slice (some ⟨g, 0, none⟩) n cap) l) (hx : l[k]? = some x) (j : Nat) (hj : j < 2) :
    w.cell? ⟨g, k * 2 + j, none⟩ = x.cells[j]? ∧ w.frozen? ⟨g, k * 2 + j, none⟩ = false ∧ x.wf := by
  obtain ⟨cs, u, ⟨rfl, hw⟩, hu, hc, hf⟩ := h.cellAt hx (j := j) hj
  exact ⟨hc.trans hu.symm, hf, hw⟩
theorem own_row_set {w : World} {base g n cap k : Nat} {S : Nat → Prop} {e : TypeId} {l : List Row} {x y : Row} {j : Nat} {u : Value} (h : Own rowRep w base S e (.slice (some ⟨g, 0, none⟩) n cap) l) (hx : l[k]? = some x) (hj : j < 2) (hy : y.cells = x.cells.set j u) (hw : y.wf) :
    Own rowRep (w.setCell ⟨g, k * 2 + j, none⟩ u) base S e (.slice (some ⟨g, 0, none⟩) n cap) (l.set k y) :=
  Own.store (cs := x.cells) flat_row h hx (by rintro cs ⟨rfl, _⟩; rfl) hj ⟨hy.symm, hw⟩

/-! ### The closure: has a row the change's key? -/
theorem see1_any (k : Int) (s : ByteArray) (cb : Nat) (ck : Int) (w : World) (h : w.cell? ⟨cb, 1, none⟩ = some (.int .i64 ck)) :
    Calls Try.prog 64 #[.agg #[.int .i64 k, .string s], .pointer (some ⟨cb, 0, none⟩)] w fun e w' => e = .returned (.bool (k == ck)) ∧ Below w.heap.size w w' := by
  have hl : cb < w.heap.size := World.block_lt_of_cell? w _ h
  have h1 := (((Below.refl w.heap.size w).alloc (Nat.le_refl _) (.cells #[.int .i64 k, .string s] 55)).cell (p := ⟨cb, 1, none⟩) hl).trans h
  go_enter Try.func64, Try.ntmps64
  go_wp2
  go_ret
  exact ⟨rfl, (Below.refl _ _).alloc (Nat.le_refl _) _⟩

/-! ### IndexFunc -/
def seeF (cb : Nat) : Value := .func (.func 64) #[] #[.pointer (some ⟨cb, 0, none⟩)]

def IdxPost (l : List Row) (ck : Int) (r : Int) : Prop := (r = -1 ∧ ∀ x ∈ l, ¬ x.key = ck) ∨ (∃ (i : Nat) (x : Row), r = (i : Int) ∧ l[i]? = some x ∧ x.key = ck ∧ ∀ y ∈ l.take i, ¬ y.key = ck)

set_option maxHeartbeats 4000000 in
set_option maxRecDepth 100000 in
theorem idxfunc_any (A : Option Addr) (n c : Nat) (l : List Row) (cb : Nat) (ck : Int) (w : World) (h : IsSl rowRep w (· < w.heap.size) A n l) (hm : n ≤ maxLen) (hc : w.cell? ⟨cb, 1, none⟩ = some (.int .i64 ck)) :
    Calls Try.prog 109 #[.slice A n c, .func (.func 64) #[] #[.pointer (some ⟨cb, 0, none⟩)]] w fun e w' => ∃ r, e = .returned (.int .i64 r) ∧ IdxPost l ck r ∧ Below w.heap.size w w' := by
  unfold maxLen at hm
  have hcl : cb < w.heap.size := World.block_lt_of_cell? w _ hc
  have H := Lib.hid h
  have HL := Lib.hid h.len
  clear h
  go_enter Try.func109, Try.ntmps109
  go_wp2_with fail
  go_loopw [8] (fun i wr => ∃ p : Nat, i = .int .i64 p ∧ p ≤ n ∧ (∀ y ∈ l.take p, ¬ y.key = ck) ∧ Below w.heap.size w wr) (fun i _ => n - (intOf i).toNat)
  case atStart => exact ⟨0, rfl, Nat.zero_le _, by simp, Below.refl _ _⟩
  case round =>
    obtain ⟨p, rfl, hp, hall, hbel⟩ := hrel
    have HA := Lib.hid hall
    have hsz := hbel.size
    clear hall
    by_cases hlt : p < n
    · have hd : decide ((p : Int) < (n : Int)) = true := decide_eq_true (by omega)
      have hpi : (p : Int) < (n : Int) := by omega
      obtain ⟨b0, off, x, rfl, hbT, hx, hwf, k0, k1⟩ := H.out.row hlt (fun q hq => hbel.cell hq)
      have hcr := (hbel.cell (p := ⟨cb, 1, none⟩) hcl).trans hc
      have HTK := Lib.hid (show l.take (p + 1) = l.take p ++ [x] from take_snoc hx)
      have HX := Lib.hid hx
      obtain ⟨xk, xv⟩ := x
      dsimp only at k0 k1
      clear hx
      by_cases g1 : xk = ck
      · have e1 : (xk == ck) = true := by simpa using g1
        have HG := Lib.hid g1
        clear g1
        go_wp2_with (first
          | (go_at_call 64; (with_reducible refine (see1_any xk xv cb ck wr hcr).mono ?_); rintro e w2 ⟨rfl, bel2⟩; rw [e1]; have B2 := Lib.hid (hbel.trans (bel2.mono hsz)); clear bel2)
          | fail)
        go_ret
        exact ⟨_, rfl, .inr ⟨p, ⟨xk, xv⟩, rfl, HX.out, HG.out, HA.out⟩, B2.out⟩
      · have e1 : (xk == ck) = false := by simpa using g1
        have HG := Lib.hid g1
        clear g1
        go_wp2_with (first
          | (go_at_call 64; (with_reducible refine (see1_any xk xv cb ck wr hcr).mono ?_); rintro e w2 ⟨rfl, bel2⟩; rw [e1]; have B2 := Lib.hid (hbel.trans (bel2.mono hsz)); clear bel2)
          | fail)
        go_roundw
        case rel => exact ⟨p + 1, by go_num, by omega, by rw [HTK.out]; intro y hy; rcases List.mem_append.1 hy with h | h; exact HA.out y h; obtain rfl := List.mem_singleton.1 h; exact HG.out, B2.out⟩
        case measure => simp [intOf]; omega
    · obtain rfl : p = n := by omega
      have hd : decide ((p : Int) < (p : Int)) = false := by simp
      have HF := Lib.hid (show ∀ y ∈ l, ¬ y.key = ck by have := HA.out; rw [List.take_of_length_le (by rw [← HL.out]; exact Nat.le_refl _)] at this; exact this)
      go_wp2
      go_ret
      exact ⟨_, rfl, .inl ⟨rfl, HF.out⟩, hbel⟩
end Go.Proofs.Ytojjeogpggielaa
