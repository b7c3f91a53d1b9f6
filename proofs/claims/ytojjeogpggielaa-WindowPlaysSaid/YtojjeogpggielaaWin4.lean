/- Contracts of the window: DeleteFunc at rows. -/
import Derived.Test.YtojjeogpggielaaWin3
set_option linter.unusedVariables false
set_option linter.unusedSimpArgs false
namespace Go.Proofs.Ytojjeogpggielaa
open Go.RowKit

def zeroRows (n : Nat) : List Value := (Builtin.zeroCells #[.int .i64 0, .string ByteArray.empty] n).toList

theorem zeroRows_len (n : Nat) : (zeroRows n).length = n * 2 := by unfold zeroRows Builtin.zeroCells; simp

theorem zeroRows_one (n : Nat) : ∀ v ∈ zeroRows n, v.oneCell' = true := by
  intro v hv
  unfold zeroRows Builtin.zeroCells at hv
  simp only [Array.toList_map, Array.toList_range, List.mem_map, List.mem_range] at hv
  obtain ⟨i, _, rfl⟩ := hv
  rcases Nat.mod_two_eq_zero_or_one i with h | h <;> (rw [show (#[Value.int IntKind.i64 0, Value.string ByteArray.empty] : Array Value).size = 2 from rfl, h]; rfl)

theorem run_clear_rows (w : World) (ty : TypeId) (b o n c : Nat) (hn : 0 < n)
    (hc : ∀ j, j < n * 2 → (w.cell? ⟨b, o + j, none⟩).isSome = true) (hf : ∀ j, j < n * 2 → w.frozen? ⟨b, o + j, none⟩ = false) :
    (Builtin.clear_ #[34] ty #[.slice (some ⟨b, o, none⟩) n c]).run Try.prog w = .ok (.tuple #[]) (w.setCells b o (zeroRows n)) := by
  have hv : ∀ w, (zeroValue 55).run Try.prog w = .ok (.agg #[.int .i64 0, .string ByteArray.empty]) w := fun _ => by kernel_rfl
  have hst := run_storeCells_cells (P := Try.prog) b o (zeroRows n) 0 w (by rw [zeroRows_len]; simpa only [Nat.add_zero] using hc) (by rw [zeroRows_len]; simpa only [Nat.add_zero] using hf) (zeroRows_one n)
  simp only [Nat.add_zero] at hst
  obtain ⟨m, rfl⟩ : ∃ m, n = m + 1 := ⟨n - 1, by omega⟩
  unfold zeroRows at hst ⊢
  simp [Builtin.clear_, run_underlying Try.underlying34, hv, Value.cells, hst]

/-- What a call leaves as it was: all old blocks but one. -/
def But (w : World) (v : Value) : Nat → Prop := fun k => k < w.heap.size ∧ rowOf v ≠ some k

theorem Rest.new {S : Nat → Prop} {a b c : World} (h : Rest S a b) (hS : ∀ k, S k → k < a.heap.size) (hb : Below b.heap.size b c) : Rest S a c :=
  h.below (fun k hk => Nat.lt_of_lt_of_le (hS k hk) h.size) hb

theorem Rest.sets {S : Nat → Prop} {a : World} {g : Nat} (hg : ¬ S g) : ∀ (vs : List Value) (o : Nat) (b : World), Rest S a b → Rest S a (b.setCells g o vs)
  | [], _, _, h => h
  | v :: r, o, b, h => Rest.sets hg r (o + 1) _ (h.set hg o v)

def keepK (ck : Int) (r : Row) : Bool := !(r.key == ck)

theorem filter_of {l : List Row} {ck : Int} (h : ∀ y ∈ l, ¬ y.key = ck) : l.filter (keepK ck) = l := by
  rw [List.filter_eq_self]
  intro y hy
  unfold keepK
  simp [h y hy]

/-- The second loop of DeleteFunc at i, j: what the row holds. -/
structure Del (l : List Row) (ck : Int) (n i j : Nat) (cur : List Row) : Prop where
  len : cur.length = n
  ij : i < j
  jn : j ≤ n
  done : cur.take i = (l.take j).filter (keepK ck)
  rest : cur.drop j = l.drop j

theorem Del.at_ {l : List Row} {ck : Int} {n i j : Nat} {cur : List Row} {x : Row} (h : Del l ck n i j cur) (hx : l[j]? = some x) : cur[j]? = some x := by
  have := congrArg (·[0]?) h.rest
  simp only [List.getElem?_drop, Nat.add_zero] at this
  rw [this]; exact hx

theorem Del.skip {l : List Row} {ck : Int} {n i j : Nat} {cur : List Row} {x : Row} (h : Del l ck n i j cur) (hj : j < n) (hx : l[j]? = some x) (hk : x.key = ck) : Del l ck n i (j + 1) cur := by
  refine ⟨h.len, by have := h.ij; omega, hj, ?_, ?_⟩
  · rw [take_snoc hx, List.filter_append, h.done]
    have : keepK ck x = false := by unfold keepK; simp [hk]
    simp [this]
  · have := congrArg (List.drop 1) h.rest
    rw [List.drop_drop, List.drop_drop] at this
    exact this

theorem Del.keep {l : List Row} {ck : Int} {n i j : Nat} {cur : List Row} {x : Row} (h : Del l ck n i j cur) (hj : j < n) (hx : l[j]? = some x) (hk : ¬ x.key = ck) : Del l ck n (i + 1) (j + 1) (cur.set i x) := by
  have hij := h.ij
  have hln := h.len
  refine ⟨by rw [List.length_set]; exact h.len, by omega, hj, ?_, ?_⟩
  · rw [take_snoc hx, List.filter_append, ← h.done]
    have : keepK ck x = true := by unfold keepK; simp [hk]
    simp only [List.filter_cons, this, if_true, List.filter_nil]
    rw [List.take_add_one, List.take_set_of_le (Nat.le_refl i), List.getElem?_set_self (by omega)]
    rfl
  · have := congrArg (List.drop 1) h.rest
    rw [List.drop_drop, List.drop_drop] at this
    rw [List.drop_set_of_lt (by omega)]
    exact this

set_option maxHeartbeats 8000000 in
set_option maxRecDepth 100000 in
theorem delfunc_any (A : Option Addr) (n c : Nat) (l : List Row) (cb : Nat) (ck : Int) (w : World) (h : Own rowRep w 0 (fun _ => False) 55 (.slice A n c) l) (hn : n ≤ 100000) (hc : w.cell? ⟨cb, 1, none⟩ = some (.int .i64 ck)) (hne : rowOf (.slice A n c) ≠ some cb) :
    Calls Try.prog 63 #[.slice A n c, .func (.func 64) #[] #[.pointer (some ⟨cb, 0, none⟩)]] w fun e w' => ∃ m, e = .returned (.slice A m c) ∧ Own rowRep w' 0 (fun _ => False) 55 (.slice A m c) (l.filter (keepK ck)) ∧ Rest (But w (.slice A n c)) w w' := by
  have hcl : cb < w.heap.size := World.block_lt_of_cell? w _ hc
  have hlen : l.length = n := by obtain ⟨_, _, hv⟩ := h.form; injection hv with _ h2 _; exact h2.symm
  have hcap : n ≤ c ∧ c ≤ maxLen := by
    obtain ⟨_, _, hv, h1, h2, _⟩ := h.isSlB
    injection hv with _ _ h3
    subst h3
    rw [hlen] at h1
    exact ⟨h1, h2⟩
  have sl : IsSl rowRep w (· < w.heap.size) A n l := by
    obtain ⟨_, _, hv, _, _, sl⟩ := h.isSlB
    rw [hlen] at hv sl
    injection hv with h1 _ _
    rw [h1]; exact sl
  have H := Lib.hid h
  have SL := Lib.hid sl
  have HLN := Lib.hid hlen
  have hcm := hcap.2
  have hnc := hcap.1
  unfold maxLen at hcm
  have HB : ∀ k, But w (.slice A n c) k → k < w.heap.size := fun k hk => hk.1
  clear h sl hlen hcap
  go_enter Try.func63, Try.ntmps63
  go_wp2_with (first
    | (go_at_call 109; (with_reducible refine (idxfunc_any A n c l cb ck w SL.out (by unfold maxLen; omega) hc).mono ?_); rintro e w1 ⟨r, rfl, hr, bel1⟩; rcases hr with ⟨rfl, hall⟩ | ⟨i0, x0, rfl, hx0, hk0, hall⟩)
    | fail)
  · have HA := Lib.hid hall
    have O1 := Lib.hid (H.out.below bel1)
    have R1 := Lib.hid ((Rest.refl (But w (.slice A n c)) w).new HB bel1)
    clear hall bel1
    go_wp2
    go_ret
    exact ⟨n, rfl, by rw [filter_of HA.out]; exact O1.out, R1.out⟩
  · have hi0 : i0 < n := by rw [← HLN.out]; exact (List.getElem?_eq_some_iff.1 hx0).1
    have O1 := Lib.hid (H.out.below bel1)
    have R1 := Lib.hid ((Rest.refl (But w (.slice A n c)) w).new HB bel1)
    obtain ⟨b1, off1, _, _, rfl, _⟩ := SL.out.at_ hi0
    obtain ⟨g, rfl, rfl⟩ : ∃ g, b1 = g ∧ off1 = 0 := by
      obtain ⟨g, cap, hv, _⟩ := H.out.form1 (by intro h0; rw [h0] at hx0; simp at hx0)
      injection hv with hA _ _
      injection hA with hA
      injection hA with h1 h2 _
      exact ⟨b1, rfl, h2⟩
    have hrow : rowOf (.slice (some ⟨b1, 0, none⟩) n c) = some b1 := by
      obtain ⟨c', rfl⟩ : ∃ c', c = c' + 1 := ⟨c - 1, by omega⟩
      rfl
    have hgcb : b1 ≠ cb := fun e => hne (by rw [hrow, e])
    have hnB : ¬ But w (.slice (some ⟨b1, 0, none⟩) n c) b1 := fun hk => hk.2 hrow
    have hcB : But w (.slice (some ⟨b1, 0, none⟩) n c) cb := ⟨hcl, hne⟩
    have HD := Lib.hid (show Del l ck n i0 (i0 + 1) l from ⟨HLN.out, by omega, by omega, by rw [take_snoc hx0, List.filter_append, filter_of hall]; simp [keepK, hk0], rfl⟩)
    have he1 : ((i0 : Int) == -1) = false := by
      rw [beq_eq_false_iff_ne]
      omega
    have HI1 := Lib.hid (show Value.int .i64 (wrap64 ((i0 : Int) + 1)) = Value.int .i64 ((i0 + 1 : Nat) : Int) by rw [show wrap64 ((i0 : Int) + 1) = ((i0 + 1 : Nat) : Int) by unfold wrap64; omega])
    clear hall hx0 hk0 bel1 hrow
    go_wp2_with fail
    go_loopw [5, 6] (fun vi vj wr => ∃ (i j : Nat) (cur : List Row), vi = .int .i64 i ∧ vj = .int .i64 j ∧ Del l ck n i j cur ∧ Own rowRep wr 0 (fun _ => False) 55 (.slice (some ⟨b1, 0, none⟩) n c) cur ∧ Rest (But w (.slice (some ⟨b1, 0, none⟩) n c)) w wr) (fun _ vj _ => n - (intOf vj).toNat)
    case atStart => exact ⟨i0, i0 + 1, l, rfl, HI1.out, HD.out, O1.out, R1.out⟩
    case round =>
      obtain ⟨i, j, cur, rfl, rfl, hdel, hown, hrest⟩ := hrel
      have D := Lib.hid hdel
      have O := Lib.hid hown
      have R := Lib.hid hrest
      have hij := hdel.ij
      have hjn := hdel.jn
      have hlc := hdel.len
      have hcr : wr.cell? ⟨cb, 1, none⟩ = some (.int .i64 ck) := (World.cell?_of_block (hrest.block cb hcB)).trans hc
      have hgw : b1 < wr.heap.size := hown.row_lt (by obtain ⟨c', rfl⟩ : ∃ c', c = c' + 1 := ⟨c - 1, by omega⟩; rfl)
      have HLC := Lib.hid hlc
      clear hdel hown hrest hlc
      by_cases hlt : j < n
      · have hd : decide ((j : Int) < (n : Int)) = true := decide_eq_true (by omega)
        have hji : (j : Int) < (n : Int) := by omega
        have hii : (i : Int) < (n : Int) := by omega
        obtain ⟨x, hx⟩ : ∃ x, l[j]? = some x := ⟨_, List.getElem?_eq_getElem (by rw [HLN.out]; exact hlt)⟩
        have HX := Lib.hid hx
        have hcx := D.out.at_ hx
        have q0 : wr.cell? ⟨b1, j * 2, none⟩ = some (.int .i64 x.key) := (own_row O.out hcx 0 (by omega)).1
        have q1 : wr.cell? ⟨b1, j * 2 + 1, none⟩ = some (.string x.val) := (own_row O.out hcx 1 (by omega)).1
        have HW := Lib.hid (own_row O.out hcx 1 (by omega)).2.2
        obtain ⟨xk, xv⟩ := x
        dsimp only at q0 q1
        obtain ⟨y, hy⟩ : ∃ y, cur[i]? = some y := ⟨_, List.getElem?_eq_getElem (by rw [HLC.out]; omega)⟩
        have HY := Lib.hid hy
        clear hx hcx hy
        have HWA := Lib.hid (show ∀ o w2, Below (wr.alloc o).heap.size (wr.alloc o) w2 → Own rowRep w2 0 (fun _ => False) 55 (.slice (some ⟨b1, 0, none⟩) n c) cur ∧ Rest (But w (.slice (some ⟨b1, 0, none⟩) n c)) w w2 from fun o w2 hb => ⟨(O.out.alloc o).below hb, (R.out.new HB ((Below.refl _ _).alloc (Nat.le_refl _) o)).new HB hb⟩)
        have ha : ∀ o, (wr.alloc o).cell? ⟨cb, 1, none⟩ = some (.int .i64 ck) := fun o => (((Below.refl wr.heap.size wr).alloc (Nat.le_refl _) o).cell (World.block_lt_of_cell? wr _ hcr)).trans hcr
        by_cases g1 : xk = ck
        · have e1 : (xk == ck) = true := by simpa using g1
          have HG := Lib.hid g1
          clear g1
          go_wp2_with (first
            | (go_at_call 64; (with_reducible refine (see1_any xk xv cb ck _ (ha _)).mono ?_); rintro e w2 ⟨rfl, bel2⟩; rw [e1]; have OR := Lib.hid (HWA.out _ w2 bel2); clear bel2)
            | fail)
          go_roundw
          case rel =>
            refine ⟨_, _, _, _, _, _, _, _, _, _, _, _, _, _, _, _, _, _, _, _, _, _, _, ?_, rfl⟩
            exact ⟨i, j + 1, cur, rfl, by go_num, D.out.skip hlt HX.out HG.out, OR.out.1, OR.out.2⟩
          case measure => simp [intOf]; omega
        · have e1 : (xk == ck) = false := by simpa using g1
          have HG := Lib.hid g1
          clear g1
          go_wp2_with (first
            | (go_at_call 64; (with_reducible refine (see1_any xk xv cb ck _ (ha _)).mono ?_); rintro e w2 ⟨rfl, bel2⟩; rw [e1]; have OR := Lib.hid (HWA.out _ w2 bel2); have p0 : w2.cell? ⟨b1, i * 2, none⟩ = some (.int .i64 y.key) := (own_row OR.out.1 HY.out 0 (by omega)).1; have p1 : w2.cell? ⟨b1, i * 2 + 1, none⟩ = some (.string y.val) := (own_row OR.out.1 HY.out 1 (by omega)).1; have z0 : w2.frozen? ⟨b1, i * 2, none⟩ = false := (own_row OR.out.1 HY.out 0 (by omega)).2.1; have z1 := (own_row OR.out.1 HY.out 1 (by omega)).2.1; have v0 : w2.cell? ⟨wr.heap.size, 0, none⟩ = some (.int .i64 xk) := (bel2.cell (p := ⟨wr.heap.size, 0, none⟩) (by simp)).trans (World.cell?_alloc_at _ _ _ _ rfl); have v1 : w2.cell? ⟨wr.heap.size, 1, none⟩ = some (.string xv) := (bel2.cell (p := ⟨wr.heap.size, 1, none⟩) (by simp)).trans (World.cell?_alloc_at _ _ _ _ rfl); clear bel2)
            | fail)
          go_roundw
          case rel =>
            have o1 := own_row_set (j := 0) (y := ⟨xk, y.val⟩) (u := .int .i64 xk) OR.out.1 HY.out (by omega) rfl ⟨HW.out.1, (own_row OR.out.1 HY.out 0 (by omega)).2.2.2⟩
            have e1 : (cur.set i ⟨xk, y.val⟩)[i]? = some ⟨xk, y.val⟩ := List.getElem?_set_self (by rw [HLC.out]; omega)
            have o2 := own_row_set (j := 1) (y := ⟨xk, xv⟩) (u := .string xv) o1 e1 (by omega) rfl HW.out
            rw [List.set_set] at o2
            refine ⟨_, _, _, _, _, _, _, _, _, _, _, _, _, _, _, _, _, _, _, _, _, _, _, ?_, rfl⟩
            exact ⟨i + 1, j + 1, cur.set i ⟨xk, xv⟩, by go_num, by go_num, D.out.keep hlt HX.out HG.out, o2, (OR.out.2.set hnB _ _).set hnB _ _⟩
          case measure => simp [intOf]; omega
      · obtain rfl : j = n := by omega
        have hd : decide ((j : Int) < (j : Int)) = false := by simp
        have hcell : ∀ k, k < (j - i) * 2 → (wr.cell? ⟨b1, i * 2 + k, none⟩).isSome = true ∧ wr.frozen? ⟨b1, i * 2 + k, none⟩ = false := by
          intro k hk
          obtain ⟨y, hy⟩ : ∃ y, cur[i + k / 2]? = some y := ⟨_, List.getElem?_eq_getElem (by rw [HLC.out]; omega)⟩
          have hh := own_row O.out hy (k % 2) (by omega)
          rw [show (i + k / 2) * 2 + k % 2 = i * 2 + k by omega] at hh
          refine ⟨?_, hh.2.1⟩
          rw [hh.1]
          rcases Nat.mod_two_eq_zero_or_one k with h | h <;> (rw [h]; rfl)
        have hcl2 : ∀ ty, (Builtin.clear_ #[34] ty #[.slice (some ⟨b1, i * 2, none⟩) (j - i) (c - i)]).run Try.prog wr = .ok (.tuple #[]) (wr.setCells b1 (i * 2) (zeroRows (j - i))) := fun ty => run_clear_rows wr ty b1 (i * 2) (j - i) (c - i) (by omega) (fun k hk => (hcell k hk).1) (fun k hk => (hcell k hk).2)
        have HF := Lib.hid (show cur.take i = l.filter (keepK ck) by have := D.out.done; rw [List.take_of_length_le (l := l) (by rw [HLN.out]; exact Nat.le_refl _)] at this; exact this)
        have hij2 : (i : Int) ≤ (j : Int) := by omega
        have hic : (i : Int) ≤ (c : Int) := by omega
        clear hcell
        go_wp2
        go_ret
        refine ⟨i, rfl, ?_, R.out.sets hnB _ _⟩
        rw [← HF.out]
        have o := O.out.front (i := i) (by omega)
        exact Own.beyonds flat_row _ _ _ o (by rw [List.length_take]; show min i cur.length * 2 ≤ i * 2; omega)
end Go.Proofs.Ytojjeogpggielaa
