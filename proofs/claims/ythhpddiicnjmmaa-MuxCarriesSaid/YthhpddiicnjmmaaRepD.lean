/- The reference's replica: where it lies; a new one; a new set of tables. Contracts of the reference's replica: Cells, Rows. -/
import Derived.Test.YthhpddiicnjmmaaCarS
import Derived.Test.YthhpddiicnjmmaaSet5
import Derived.Test.YthhpddiicnjmmaaMake
import Derived.Deep.RegionHeld3
set_option linter.unusedVariables false
set_option linter.unusedSimpArgs false
set_option maxRecDepth 100000
namespace Go.Proofs.Ythhpddiicnjmmaa
open Go.RowKit

/-- A replica at block gs, their slices at block bt, their cells in U. -/
structure RepAt (w : World) (U : Nat → Prop) (gs bt : Nat) (tabs : List (List Cell)) : Prop where
  blk : Blk w gs [.slice (some ⟨bt, 0, none⟩) tabs.length tabs.length]
  tab : ∃ vs : List Value, Blk w bt vs ∧ vs.length = tabs.length ∧ ∀ (t : Nat) (l : List Cell), tabs[t]? = some l → ∃ A m c, vs[t]? = some (.slice A m c) ∧ IsSl cellRep w U A m l ∧ m ≤ c ∧ c ≤ maxLen
  hU : ∀ k, U k → k < w.heap.size
  ng : ¬ U gs ∧ ¬ U bt ∧ gs ≠ bt

theorem RepAt.lt {w : World} {U : Nat → Prop} {gs bt : Nat} {tabs : List (List Cell)} (h : RepAt w U gs bt tabs) : gs < w.heap.size ∧ bt < w.heap.size := by
  obtain ⟨vs, hb, _⟩ := h.tab
  exact ⟨h.blk.lt, hb.lt⟩
theorem RepAt.below {w w' : World} {U : Nat → Prop} {gs bt : Nat} {tabs : List (List Cell)} (h : RepAt w U gs bt tabs) (hb : Below w.heap.size w w') : RepAt w' U gs bt tabs := by
  obtain ⟨vs, h1, h2, h3⟩ := h.tab
  refine ⟨h.blk.after hb, ⟨vs, h1.after hb, h2, fun t l hl => ?_⟩, fun k hk => Nat.lt_of_lt_of_le (h.hU k hk) hb.size, h.ng⟩
  obtain ⟨A, m, c, hv, sl, hc, hm⟩ := h3 t l hl
  exact ⟨A, m, c, hv, sl.keep (fun p hp => hb.cell (h.hU _ hp)), hc, hm⟩
theorem RepAt.rest {w w' : World} {S U : Nat → Prop} {gs bt : Nat} {tabs : List (List Cell)} (h : RepAt w U gs bt tabs) (r : Rest S w w') (hU : ∀ k, U k → S k) (h1 : S gs) (h2 : S bt) : RepAt w' U gs bt tabs := by
  obtain ⟨vs, k1, k2, k3⟩ := h.tab
  refine ⟨h.blk.rest r h1, ⟨vs, k1.rest r h2, k2, fun t l hl => ?_⟩, fun k hk => Nat.lt_of_lt_of_le (h.hU k hk) r.size, h.ng⟩
  obtain ⟨A, m, c, hv, sl, hc, hm⟩ := k3 t l hl
  exact ⟨A, m, c, hv, sl.rest r hU, hc, hm⟩
/-- One table is another one. -/
theorem RepAt.put {w w' : World} {U : Nat → Prop} {gs bt t : Nat} {tabs : List (List Cell)} {A : Option Addr} {m c : Nat} {l : List Cell} (h : RepAt w U gs bt tabs) (hb : Below w.heap.size w w') (ht : t < tabs.length) (sl : IsSl cellRep w' (fun k => U k ∨ (w.heap.size ≤ k ∧ k < w'.heap.size)) A m l) (hc : m ≤ c) (hm : c ≤ maxLen) :
    RepAt (w'.setCell ⟨bt, t, none⟩ (.slice A m c)) (fun k => U k ∨ (w.heap.size ≤ k ∧ k < w'.heap.size)) gs bt (tabs.set t l) := by
  obtain ⟨vs, h1, h2, h3⟩ := h.tab
  have hlt := h.lt
  have ng : ∀ b, b < w.heap.size → ¬ U b → ¬ (U b ∨ (w.heap.size ≤ b ∧ b < w'.heap.size)) := fun b hb hn e => e.elim hn (fun e => by omega)
  refine ⟨?_, ⟨vs.set t (.slice A m c), (h1.after hb).put (by rw [h2]; exact ht) _ rfl, by rw [List.length_set, List.length_set, h2], fun t' l' hl => ?_⟩, fun k hk => ?_, ng _ hlt.1 h.ng.1, ng _ hlt.2 h.ng.2.1, h.ng.2.2⟩
  · rw [List.length_set]
    exact (h.blk.after hb).other h.ng.2.2 t _
  · have hk : ∀ p : Addr, (U p.block ∨ (w.heap.size ≤ p.block ∧ p.block < w'.heap.size)) → (w'.setCell ⟨bt, t, none⟩ (.slice A m c)).cell? p = w'.cell? p := fun p hp => World.cell?_setCell_far w' _ _ _ (fun e => ng bt hlt.2 h.ng.2.1 (by have e' : bt = p.block := e; rw [e']; exact hp))
    by_cases e : t = t'
    · subst e
      rw [List.getElem?_set_self (by exact ht)] at hl
      obtain rfl := Option.some.inj hl
      exact ⟨A, m, c, List.getElem?_set_self (by rw [h2]; exact ht), sl.keep (fun p hp => hk p hp), hc, hm⟩
    · rw [List.getElem?_set_ne e] at hl
      obtain ⟨A', m', c', hv, sl', hc', hm'⟩ := h3 t' l' hl
      exact ⟨A', m', c', by rw [List.getElem?_set_ne e]; exact hv, (sl'.keep (fun p hp => hb.cell (h.hU _ hp))).weak (fun k hk => .inl hk) |>.keep (fun p hp => hk p hp), hc', hm'⟩
  · rcases hk with hk | hk
    · exact Nat.lt_of_lt_of_le (h.hU k hk) (by simpa using hb.size)
    · simpa using hk.2

theorem RepAt.drew {w : World} {U : Nat → Prop} {gs bt : Nat} {tabs : List (List Cell)} (h : RepAt w U gs bt tabs) : RepAt w.drew U gs bt tabs := h.below ⟨rfl, rfl, rfl, Nat.le_refl _, fun _ _ => rfl⟩

theorem RepAt.same {w : World} {U U' : Nat → Prop} {gs bt : Nat} {tabs : List (List Cell)} (h : RepAt w U gs bt tabs) (hU : ∀ k, U k → U' k) (hs : ∀ k, U' k → k < w.heap.size) (h1 : ¬ U' gs) (h2 : ¬ U' bt) : RepAt w U' gs bt tabs := by
  obtain ⟨vs, k1, k2, k3⟩ := h.tab
  refine ⟨h.blk, ⟨vs, k1, k2, fun t l hl => ?_⟩, hs, h1, h2, h.ng.2.2⟩
  obtain ⟨A, m, c, hv, sl, hc, hm⟩ := k3 t l hl
  exact ⟨A, m, c, hv, sl.weak hU, hc, hm⟩

theorem made_nil (n : Nat) : (madeCells #[Value.slice none 0 0] n).toList = List.replicate n (.slice none 0 0) := by
  have h := madeCells_list (z := #[Value.slice none 0 0]) (s := 1) (n := n) rfl (by omega)
  rw [Nat.mul_one] at h
  rw [h]
  clear h
  induction n with
  | zero => rfl
  | succ n ih => rw [List.replicate_succ, List.flatten_cons, ih, List.replicate_succ]; rfl
theorem nil_tab {n t : Nat} {α : Type} {l : List α} (h : (List.replicate n ([] : List α))[t]? = some l) : l = [] ∧ (List.replicate n (Value.slice none 0 0))[t]? = some (.slice none 0 0) := by
  rw [List.getElem?_replicate] at h
  split at h
  · next hlt => exact ⟨(Option.some.inj h).symm, by rw [List.getElem?_replicate, if_pos hlt]⟩
  · cases h
theorem setAt_new {w : World} {t1 t2 : TypeId} (n : Nat) : SetAt ((w.alloc (.cells (madeCells #[Value.slice none 0 0] n) t1)).alloc (.cells #[.slice (some ⟨w.heap.size, 0, none⟩) n n] t2)) (fun _ => False) (w.heap.size + 1) w.heap.size (List.replicate n []) := by
  refine ⟨?_, ⟨List.replicate n (.slice none 0 0), (Blk.new (made_nil n) rfl).alloc _, by simp, fun t l hl => ?_⟩, fun _ h => h.elim, id, id, by omega⟩
  · rw [List.length_replicate]; exact Blk.new rfl (by simp)
  · obtain ⟨rfl, h2⟩ := nil_tab hl
    exact ⟨none, 0, 0, h2, IsSl.nil, Nat.le_refl _, Nat.zero_le _⟩
theorem repAt_new {w : World} {t1 t2 : TypeId} (n : Nat) : RepAt ((w.alloc (.cells (madeCells #[Value.slice none 0 0] n) t1)).alloc (.cells #[.slice (some ⟨w.heap.size, 0, none⟩) n n] t2)) (fun _ => False) (w.heap.size + 1) w.heap.size (List.replicate n []) := by
  refine ⟨?_, ⟨List.replicate n (.slice none 0 0), (Blk.new (made_nil n) rfl).alloc _, by simp, fun t l hl => ?_⟩, fun _ h => h.elim, id, id, by omega⟩
  · rw [List.length_replicate]; exact Blk.new rfl (by simp)
  · obtain ⟨rfl, h2⟩ := nil_tab hl
    exact ⟨none, 0, 0, h2, IsSl.nil, Nat.le_refl _, Nat.zero_le _⟩
theorem info_rows : (Try.prog.info? 81).map (fun i => (i.zero, i.size, i.bytes)) = some (some (.slice none 0 0), 1, 24) := by kernel_rfl
theorem info_cells : (Try.prog.info? 153).map (fun i => (i.zero, i.size, i.bytes)) = some (some (.slice none 0 0), 1, 24) := by kernel_rfl

set_option maxHeartbeats 2000000 in
theorem refnewset_any (n : Nat) (h1 : 1 ≤ n) (h2 : n ≤ 8) (w : World) :
    Calls Try.prog 86 #[.int .i64 (n : Int)] w fun e w' => ∃ gs bt, e = .returned (.pointer (some ⟨gs, 0, none⟩)) ∧ SetAt w' (fun _ => False) gs bt (List.replicate n []) ∧ w.heap.size ≤ gs ∧ w.heap.size ≤ bt ∧ Below w.heap.size w w' := by
  obtain ⟨i0, hi, hz0, hz1, hz2⟩ := info_parts info_rows
  have hmk : ∀ W : World, (Instr.makeSlice 22 (.int .i64 (n : Int)) (.int .i64 (n : Int))).run Try.prog W = .ok (.slice (some ⟨W.heap.size, 0, none⟩) n n) (W.alloc (.cells (madeCells (Value.slice none 0 0).cells (n * 1)) 81)) := fun W => run_make_own 22 81 i0 (.slice none 0 0) 1 24 Try.underlying22 hi hz0 hz1 hz2 .i64 .i64 n (n : Int) rfl (by omega) (by omega) W
  have d1 : decide ((n : Int) < 1) = false := decide_eq_false (by omega)
  have d2 : decide (8 < (n : Int)) = false := decide_eq_false (by omega)
  go_enter Try.func86, Try.ntmps86
  go_wp2
  go_ret
  exact ⟨w.heap.size + 1, w.heap.size, rfl, setAt_new n, by omega, Nat.le_refl _, ((Below.refl _ _).alloc (Nat.le_refl _) _).alloc (by simp) _⟩

set_option maxHeartbeats 2000000 in
theorem refnewrep_any (n : Nat) (h1 : 1 ≤ n) (h2 : n ≤ 8) (w : World) :
    Calls Try.prog 27 #[.int .i64 (n : Int)] w fun e w' => ∃ gs bt, e = .returned (.pointer (some ⟨gs, 0, none⟩)) ∧ RepAt w' (fun _ => False) gs bt (List.replicate n []) ∧ w.heap.size ≤ gs ∧ w.heap.size ≤ bt ∧ Below w.heap.size w w' := by
  obtain ⟨i0, hi, hz0, hz1, hz2⟩ := info_parts info_cells
  have hmk : ∀ W : World, (Instr.makeSlice 146 (.int .i64 (n : Int)) (.int .i64 (n : Int))).run Try.prog W = .ok (.slice (some ⟨W.heap.size, 0, none⟩) n n) (W.alloc (.cells (madeCells (Value.slice none 0 0).cells (n * 1)) 153)) := fun W => run_make_own 146 153 i0 (.slice none 0 0) 1 24 Try.underlying146 hi hz0 hz1 hz2 .i64 .i64 n (n : Int) rfl (by omega) (by omega) W
  have d1 : decide ((n : Int) < 1) = false := decide_eq_false (by omega)
  have d2 : decide (8 < (n : Int)) = false := decide_eq_false (by omega)
  go_enter Try.func27, Try.ntmps27
  go_wp2
  go_ret
  exact ⟨w.heap.size + 1, w.heap.size, rfl, repAt_new n, by omega, Nat.le_refl _, ((Below.refl _ _).alloc (Nat.le_refl _) _).alloc (by simp) _⟩

end Go.Proofs.Ythhpddiicnjmmaa

set_option linter.unusedVariables false
set_option linter.unusedSimpArgs false
set_option maxRecDepth 100000
namespace Go.Proofs.Ythhpddiicnjmmaa
open Go.RowKit

theorem info_cell : (Try.prog.info? 155).map (fun i => (i.zero, i.size, i.bytes)) = some (some (.agg #[.int .i64 0, .int .i64 0, .bool false, .string ByteArray.empty]), 4, 40) := by kernel_rfl

set_option maxHeartbeats 4000000 in
theorem repcells_any (gs bt : Nat) (U : Nat → Prop) (tabs : List (List Cell)) (t : Nat) (ti : Int) (hti : ti = (t : Int)) (w : World) (h : RepAt w U gs bt tabs) (ht : t < tabs.length) (hl : tabs.length ≤ 100000) (hs : ∀ l ∈ tabs, l.length ≤ 100000) :
    Calls Try.prog 85 #[.pointer (some ⟨gs, 0, none⟩), .int .i64 ti] w fun e w' => ∃ v, e = .returned v ∧ Own cellRep w' w.heap.size (fun _ => False) 155 v ((tabs[t]?).getD []) ∧ Below w.heap.size w w' := by
  subst hti
  obtain ⟨i0, hi, hz0, hz1, hz2⟩ := info_parts info_cell
  obtain ⟨vs, hb, hvl, hall⟩ := h.tab
  have hlt := h.lt
  have hget : tabs[t]? = some tabs[t] := List.getElem?_eq_getElem ht
  obtain ⟨A, m, c, hv, sl, hc, hm⟩ := hall t _ hget
  have HSM := Lib.hid (show tabs[t].length ≤ 100000 from hs _ (List.getElem_mem ht))
  obtain ⟨l, hll⟩ : ∃ l, l = tabs[t] := ⟨_, rfl⟩
  rw [hget, ← hll]
  rw [← hll] at sl HSM
  have c0 := h.blk.1 0 _ rfl
  have cv := hb.1 t _ hv
  have H := Lib.hid h
  have HL := Lib.hid hl
  obtain ⟨W0, hW0⟩ : ∃ W0, W0 = w.alloc (.cells #[] 155) := ⟨_, rfl⟩
  have B0 := Lib.hid (show Below w.heap.size w W0 by rw [hW0]; exact (Below.refl _ _).alloc (Nat.le_refl _) _)
  have d0 : W0.cell? ⟨gs, 0, none⟩ = some (.slice (some ⟨bt, 0, none⟩) tabs.length tabs.length) := (B0.out.cell (p := ⟨gs, 0, none⟩) hlt.1).trans c0
  have dv : W0.cell? ⟨bt, t, none⟩ = some (.slice A m c) := (B0.out.cell (p := ⟨bt, t, none⟩) hlt.2).trans cv
  have SRC := Lib.hid (show Src cellRep W0 (fun _ => False) A m l from sl.srcK flat_cell (fun q hq => B0.out.cell (h.hU _ hq)))
  have HML := Lib.hid sl.len
  have HW0 := Lib.hid hW0
  obtain ⟨n, hn⟩ : ∃ n, n = tabs.length := ⟨_, rfl⟩
  rw [← hn] at d0 c0 ht
  have hti : (t : Int) < (n : Int) := by omega
  have hd1 : decide ((t : Int) < 0) = false := decide_eq_false (by omega)
  have hd2 : decide ((n : Int) ≤ (t : Int)) = false := decide_eq_false (by omega)
  have hd2n : decide (n ≤ t) = false := decide_eq_false (by omega)
  have hml : m ≤ 100000 := by rw [HML.out]; exact HSM.out
  have HLM := Lib.hid (show l.length ≤ 100000 from HSM.out)
  have hgw := hlt.1
  have hbw := hlt.2
  clear hW0 hv sl hc hm h hall hb hvl hget hll hn hl hs hlt
  go_enter Try.func85, Try.ntmps85
  go_wp2_with (first
    | (at_builtin; rw [← HW0.out]; refine wpList_append_Own _ rfl _ _ 153 rfl w.heap.size 155 i0 _ 40 Try.underlying153 hi hz0 hz1 hz2 rfl (R := cellRep) (S := fun _ => False) (l := []) (l' := l) (.slice (some ⟨w.heap.size, 0, none⟩) 0 0) rfl (Own.nil _ _ _ (fun _ h => h.elim) _ _) A m c rfl SRC.out (by simp [maxLen]; omega) (by simp; omega) (by omega) B0.out.size ?_; intro v1 w1 own1 gr1 at1; have bel1 := B0.out.grown gr1 B0.out.size (by intro k hk; simp [rowOf] at hk); simp only [List.nil_append] at own1; have OW1 := Lib.hid own1; have B1 := Lib.hid bel1; clear gr1 at1 own1 bel1)
    | fail)
  go_ret
  exact ⟨_, rfl, OW1.out, B1.out⟩

theorem rowsC_snoc (l : List Cell) (c : Cell) : rowsC (l ++ [c]) = rowsC l ++ (if c.gone = true then [] else [⟨c.key, c.val⟩]) := by
  unfold rowsC
  rw [List.filter_append, List.map_append]
  cases h : c.gone <;> simp [List.filter_cons, h]
theorem rowsC_len (l : List Cell) : (rowsC l).length ≤ l.length := by unfold rowsC; rw [List.length_map]; exact List.length_filter_le _ _
theorem IsSl.cellT {w w' : World} {T : Nat → Prop} {n k : Nat} {A : Option Addr} {l : List Cell} (h : IsSl cellRep w T A n l) (hk : k < n) (hw : ∀ p : Addr, T p.block → w'.cell? p = w.cell? p) :
    ∃ b off x, A = some ⟨b, off, none⟩ ∧ T b ∧ l[k]? = some x ∧ x.wf ∧ w'.cell? ⟨b, off + k * 4, none⟩ = some (.int .i64 x.key) ∧ w'.cell? ⟨b, off + k * 4 + 1, none⟩ = some (.int .i64 x.lsn) ∧ w'.cell? ⟨b, off + k * 4 + 2, none⟩ = some (.bool x.gone) ∧ w'.cell? ⟨b, off + k * 4 + 3, none⟩ = some (.string x.val) := by
  obtain ⟨b, off, x, cs, rfl, hb, hx, ⟨rfl, hw2⟩, hc⟩ := h.at_ hk
  exact ⟨b, off, x, rfl, hb, hx, hw2, (hw _ hb).trans (hc 0 _ rfl), (hw _ hb).trans (hc 1 _ rfl), (hw _ hb).trans (hc 2 _ rfl), (hw _ hb).trans (hc 3 _ rfl)⟩

set_option maxHeartbeats 4000000 in
theorem reprows_any (gs bt : Nat) (U : Nat → Prop) (tabs : List (List Cell)) (t : Nat) (ti : Int) (hti : ti = (t : Int)) (w : World) (h : RepAt w U gs bt tabs) (ht : t < tabs.length) (hl : tabs.length ≤ 100000) (hs : ∀ l ∈ tabs, l.length ≤ 100000) :
    Calls Try.prog 34 #[.pointer (some ⟨gs, 0, none⟩), .int .i64 ti] w fun e w' => ∃ v, e = .returned v ∧ Own rowRep w' w.heap.size (fun _ => False) 80 v (rowsC ((tabs[t]?).getD [])) ∧ Below w.heap.size w w' := by
  obtain ⟨j0, ji, jz0, jz1, jz2⟩ := info_parts info_row
  have HSM := Lib.hid (show ((tabs[t]?).getD []).length ≤ 100000 by rw [List.getElem?_eq_getElem ht]; exact hs _ (List.getElem_mem ht))
  have KC := Lib.hid (repcells_any gs bt U tabs t ti hti w h ht hl hs)
  obtain ⟨C, hC⟩ : ∃ C, C = (tabs[t]?).getD [] := ⟨_, rfl⟩
  rw [← hC] at KC HSM ⊢
  clear h ht hl hs hti hC
  go_enter Try.func34, Try.ntmps34
  go_wp2_with (first
    | (go_at_call 85; (with_reducible refine KC.out.mono ?_); rintro e w1 ⟨v1, rfl, own1, bel1⟩; obtain ⟨A1, c1, rfl, _, _, sl1⟩ := own1.isSlR; obtain ⟨n, hn⟩ : ∃ n, n = C.length := ⟨_, rfl⟩; rw [← hn] at sl1 HSM ⊢; have HN := Lib.hid hn; have SL := Lib.hid sl1; have B1 := Lib.hid bel1; clear own1 bel1 sl1 hn)
    | fail)
  have hnm := HSM.out
  go_loopw [5, 7] (fun rv i wr => ∃ (p : Nat) (acc : List Row), i = .int .i64 p ∧ p ≤ n ∧ acc = rowsC (C.take p) ∧ Own rowRep wr w1.heap.size (fun _ => False) 80 rv acc ∧ Below w1.heap.size w1 wr) (fun _ i _ => n - (intOf i).toNat)
  case atStart => exact ⟨0, [], rfl, Nat.zero_le _, rfl, Own.nil _ _ _ (fun _ h => h.elim) _ _, Below.refl _ _⟩
  case round =>
    obtain ⟨wo, rfl⟩ : ∃ q : World, q = wr := ⟨_, rfl⟩
    obtain ⟨p, acc, rfl, hp, hacc, hown, hbel⟩ := hrel
    obtain ⟨A7, c7, hv7, _, _, _⟩ := hown.isSlR
    obtain ⟨q7, hq7⟩ : ∃ q, q = acc.length := ⟨_, rfl⟩
    rw [← hq7] at hv7
    subst hv7
    have hal : acc.length ≤ p := by rw [hacc]; exact Nat.le_trans (rowsC_len _) (by rw [List.length_take]; omega)
    have hql : q7 ≤ p := by omega
    have HQ7 := Lib.hid hq7
    have OW := Lib.hid hown
    have BE := Lib.hid hbel
    have HACC := Lib.hid hacc
    have hws := hbel.size
    clear hown hbel hacc hq7 hal
    by_cases hlt : p < n
    · have hd : decide ((p : Int) < (n : Int)) = true := decide_eq_true (by omega)
      have hpi : (p : Int) < (n : Int) := by omega
      have hp0 : (0 : Int) ≤ (p : Int) := by omega
      obtain ⟨b0, off, x, rfl, hb0, hx, hwx, k0, k1, k2, k3⟩ := SL.out.cellT (w' := wo) hlt (fun q hq => BE.out.cell hq.2)
      have HSN := Lib.hid (show rowsC (C.take (p + 1)) = acc ++ (if x.gone = true then [] else [⟨x.key, x.val⟩]) by rw [take_snoc hx, rowsC_snoc, ← HACC.out])
      have HWX := Lib.hid (show (⟨x.key, x.val⟩ : Row).wf from ⟨hwx.1, hwx.2.2⟩)
      have hb0w : b0 < w1.heap.size := hb0.2
      obtain ⟨xk, xl, xg, xv⟩ := x
      dsimp only at k0 k1 k2 k3 HSN HWX
      clear hx hwx
      cases xg with
      | true =>
        rw [if_pos rfl, List.append_nil] at HSN
        go_wp2
        go_roundw
        case rel => exact ⟨p + 1, acc, by go_num, by omega, HSN.out.symm, OW.out, BE.out⟩
        case measure => simp [intOf]; omega
      | false =>
        rw [if_neg (by simp)] at HSN
        have OWD := Lib.hid (show Own rowRep wo.drew w1.heap.size (fun _ => False) 80 (.slice A7 q7 c7) acc from OW.out.drew)
        have BED := Lib.hid (show Below w1.heap.size w1 wo.drew from below_drewN BE.out 1)
        have HC := Lib.hid (show w1.cell? ⟨b0, off + p * 4, none⟩ = some (.int .i64 xk) ∧ w1.cell? ⟨b0, off + p * 4 + 3, none⟩ = some (.string xv) from ⟨(BE.out.cell (p := ⟨b0, _, none⟩) hb0w).symm.trans k0, (BE.out.cell (p := ⟨b0, _, none⟩) hb0w).symm.trans k3⟩)
        have HK1 := Lib.hid (show (wo.drew.alloc (.cells #[.int .i64 xk, .string xv] 80)).cell? ⟨b0, off + p * 4, none⟩ = some (.int .i64 xk) ∧ (wo.drew.alloc (.cells #[.int .i64 xk, .string xv] 80)).cell? ⟨b0, off + p * 4 + 3, none⟩ = some (.string xv) from ⟨((BED.out.alloc hws _).cell (p := ⟨b0, _, none⟩) hb0w).trans HC.out.1, ((BED.out.alloc hws _).cell (p := ⟨b0, _, none⟩) hb0w).trans HC.out.2⟩)
        go_wp2_with fail
        refine wp_region_held_drew (S := fun w' => w'.cell? ⟨b0, off + p * 4, none⟩ = some (.int .i64 xk) ∧ w'.cell? ⟨b0, off + p * 4 + 3, none⟩ = some (.string xv)) (by kernel_rfl) (⟨k0, k3⟩) (fun hHeld => ?_)
        (refine wpAnyH_take (i := 0) (v := ?_) rfl (by kernel_rfl) (by kernel_rfl) (by kernel_rfl) (fun _ _ _ h => h) (Or.inl ⟨by rfl, ?_⟩) hHeld ?_; rotate_left 1; focus (intro w hSw; (try dsimp only at hSw); go_simp; try with_reducible rfl)); (try simp only [Act.put, List.getElem_toArray, List.getElem_cons_zero, List.getElem_cons_succ, List.setIfInBounds_toArray, List.set_cons_zero, List.set_cons_succ])
        (refine wpAnyH_take (i := 1) (v := ?_) rfl (by kernel_rfl) (by kernel_rfl) (by kernel_rfl) (fun _ _ _ h => h) (Or.inl ⟨by rfl, ?_⟩) hHeld ?_; rotate_left 1; focus (intro w hSw; (try dsimp only at hSw); go_simp; try with_reducible rfl)); (try simp only [Act.put, List.getElem_toArray, List.getElem_cons_zero, List.getElem_cons_succ, List.setIfInBounds_toArray, List.set_cons_zero, List.set_cons_succ])
        (refine wpAnyH_take (i := 2) (v := ?_) rfl (by kernel_rfl) (by kernel_rfl) (by kernel_rfl) (fun _ _ _ h => h) (Or.inl ⟨by rfl, ?_⟩) hHeld ?_; rotate_left 1; focus (intro w hSw; (try dsimp only at hSw); go_simp; try with_reducible rfl)); (try simp only [Act.put, List.getElem_toArray, List.getElem_cons_zero, List.getElem_cons_succ, List.setIfInBounds_toArray, List.set_cons_zero, List.set_cons_succ])
        (refine wpAnyH_take (i := 3) (v := ?_) rfl (by kernel_rfl) (by kernel_rfl) (by kernel_rfl) (fun _ _ _ h => h) (Or.inl ⟨by rfl, ?_⟩) hHeld ?_; rotate_left 1; focus (intro w hSw; (try dsimp only at hSw); go_simp; try with_reducible rfl)); (try simp only [Act.put, List.getElem_toArray, List.getElem_cons_zero, List.getElem_cons_succ, List.setIfInBounds_toArray, List.set_cons_zero, List.set_cons_succ])
        (refine wpAnyH_take (i := 4) (v := ?_) rfl (by kernel_rfl) (by kernel_rfl) (by kernel_rfl) (fun _ _ _ h => h) (Or.inl ⟨by rfl, ?_⟩) hHeld ?_; rotate_left 1; focus (intro w hSw; (try dsimp only at hSw); go_simp; try with_reducible rfl)); (try simp only [Act.put, List.getElem_toArray, List.getElem_cons_zero, List.getElem_cons_succ, List.setIfInBounds_toArray, List.set_cons_zero, List.set_cons_succ])
        (refine wpAnyH_take (i := 5) (v := ?_) rfl (by kernel_rfl) (by kernel_rfl) (by kernel_rfl) (fun _ _ _ h => h) (Or.inl ⟨by rfl, ?_⟩) hHeld ?_; rotate_left 1; focus (intro w hSw; (try dsimp only at hSw); go_simp; try with_reducible rfl)); (try simp only [Act.put, List.getElem_toArray, List.getElem_cons_zero, List.getElem_cons_succ, List.setIfInBounds_toArray, List.set_cons_zero, List.set_cons_succ])
        (refine wpAnyH_take (i := 6) (v := ?_) rfl (by kernel_rfl) (by kernel_rfl) (by kernel_rfl) (fun _ _ _ h => h) (Or.inl ⟨by rfl, ?_⟩) hHeld ?_; rotate_left 1; focus (intro w hSw; (try dsimp only at hSw); go_simp; try with_reducible rfl)); (try simp only [Act.put, List.getElem_toArray, List.getElem_cons_zero, List.getElem_cons_succ, List.setIfInBounds_toArray, List.set_cons_zero, List.set_cons_succ])
        (refine wpAnyH_take (i := 7) (v := ?_) rfl (by kernel_rfl) (by kernel_rfl) (by kernel_rfl) (fun _ _ _ h => h) (Or.inl ⟨by rfl, ?_⟩) hHeld ?_; rotate_left 1; focus (intro w hSw; (try dsimp only at hSw); go_simp; try with_reducible rfl)); (try simp only [Act.put, List.getElem_toArray, List.getElem_cons_zero, List.getElem_cons_succ, List.setIfInBounds_toArray, List.set_cons_zero, List.set_cons_succ])
        (refine wpAnyH_take (i := 8) (v := ?_) rfl (by kernel_rfl) (by kernel_rfl) (by kernel_rfl) (fun _ _ _ h => h) (Or.inl ⟨by rfl, ?_⟩) hHeld ?_; rotate_left 1; focus (intro w hSw; (try dsimp only at hSw); go_simp; try with_reducible rfl)); (try simp only [Act.put, List.getElem_toArray, List.getElem_cons_zero, List.getElem_cons_succ, List.setIfInBounds_toArray, List.set_cons_zero, List.set_cons_succ])
        (refine wpAnyH_take (i := 9) (v := ?_) rfl (by kernel_rfl) (by kernel_rfl) (by kernel_rfl) (fun _ _ _ h => h) (Or.inl ⟨by rfl, ?_⟩) hHeld ?_; rotate_left 1; focus (intro w hSw; (try dsimp only at hSw); go_simp; try with_reducible rfl)); (try simp only [Act.put, List.getElem_toArray, List.getElem_cons_zero, List.getElem_cons_succ, List.setIfInBounds_toArray, List.set_cons_zero, List.set_cons_succ])
        (refine wpAnyH_take (i := 10) (v := ?_) rfl (by kernel_rfl) (by kernel_rfl) (by kernel_rfl) (fun _ _ _ h => h) (Or.inl ⟨by rfl, ?_⟩) hHeld ?_; rotate_left 1; focus (intro w hSw; (try dsimp only at hSw); go_simp; try with_reducible rfl)); (try simp only [Act.put, List.getElem_toArray, List.getElem_cons_zero, List.getElem_cons_succ, List.setIfInBounds_toArray, List.set_cons_zero, List.set_cons_succ])
        (refine wpAnyH_take (i := 11) (v := ?_) rfl (by kernel_rfl) (by kernel_rfl) (by kernel_rfl) (fun _ _ _ h => h) (Or.inl ⟨by rfl, ?_⟩) hHeld ?_; rotate_left 1; focus (intro w hSw; (try dsimp only at hSw); go_simp; try with_reducible rfl)); (try simp only [Act.put, List.getElem_toArray, List.getElem_cons_zero, List.getElem_cons_succ, List.setIfInBounds_toArray, List.set_cons_zero, List.set_cons_succ])
        refine wpAnyH_ready (rs := [12]) (by kernel_rfl) (by simp) ?_
        refine AllReadyH.cons rfl (fun K hK => ?_) AllReadyH.nil
        go_simp
        refine hK.out _ _ (HK1.out) (fun hHeld2 => ?_)
        clear hK K hHeld; have hHeld := hHeld2; clear hHeld2; (try simp only [Act.put, List.getElem_toArray, List.getElem_cons_zero, List.getElem_cons_succ, List.setIfInBounds_toArray, List.set_cons_zero, List.set_cons_succ])
        refine wpAnyH_ready (rs := [13]) (by kernel_rfl) (by simp) ?_
        refine AllReadyH.cons rfl (fun K hK => ?_) AllReadyH.nil
        refine step_append_Own (w := wo.drew.alloc (.cells #[.int .i64 xk, .string xv] 80)) rfl (.tmp 23) (.tmp 35) 81 rfl w1.heap.size 80 j0 _ 24 Try.underlying81 ji jz0 jz1 jz2 rfl (R := rowRep) (S := fun _ => False) (l := acc) (l' := [⟨xk, xv⟩]) (.slice A7 q7 c7) rfl (OWD.out.alloc _) _ 1 1 rfl (Src.new (cs := [.int .i64 xk, .string xv]) ⟨rfl, HWX.out⟩) (by rw [← HQ7.out]; simp only [maxLen]; omega) (by rw [← HQ7.out]; omega) (by omega) (by show w1.heap.size ≤ (wo.alloc _).heap.size; simp; omega) ?_
        intro v8 w8 own8 gr8 at8
        obtain ⟨A8, c8, rfl⟩ := own8.form
        obtain ⟨q8, hq8⟩ : ∃ q, q = (acc ++ [(⟨xk, xv⟩ : Row)]).length := ⟨_, rfl⟩
        rw [← hq8] at own8 ⊢
        have HQ8 := Lib.hid hq8
        have O8 := Lib.hid own8
        have B8 := Lib.hid ((BED.out.alloc hws (.cells #[.int .i64 xk, .string xv] 80)).grown gr8 (Nat.le_trans hws (by simp)) (fun k hk => OW.out.row_ge hk))
        clear own8 gr8 at8 hq8
        refine hK.out _ _ (⟨(B8.out.cell (p := ⟨b0, _, none⟩) hb0w).trans HC.out.1, (B8.out.cell (p := ⟨b0, _, none⟩) hb0w).trans HC.out.2⟩) (fun hHeld2 => ?_)
        clear hK K hHeld; have hHeld := hHeld2; clear hHeld2; (try simp only [Act.put, List.getElem_toArray, List.getElem_cons_zero, List.getElem_cons_succ, List.setIfInBounds_toArray, List.set_cons_zero, List.set_cons_succ])
        (refine wpAnyH_take (i := 14) (v := ?_) rfl (by kernel_rfl) (by kernel_rfl) (by kernel_rfl) (fun _ _ _ h => h) (Or.inl ⟨by rfl, ?_⟩) hHeld ?_; rotate_left 1; focus (intro w hSw; (try dsimp only at hSw); go_simp; try with_reducible rfl)); (try simp only [Act.put, List.getElem_toArray, List.getElem_cons_zero, List.getElem_cons_succ, List.setIfInBounds_toArray, List.set_cons_zero, List.set_cons_succ])
        refine wpAnyH_done (by kernel_rfl) ?_ _
        go_wp2_with fail
        go_roundw
        case rel => exact ⟨p + 1, acc ++ [⟨xk, xv⟩], by go_num, by omega, HSN.out.symm, O8.out, B8.out⟩
        case measure => simp [intOf]; omega
    · obtain rfl : n = p := by omega
      have hd : decide ((n : Int) < (n : Int)) = false := by simp
      have HAE := Lib.hid (show acc = rowsC C by rw [HACC.out, List.take_of_length_le (by rw [← HN.out]; exact Nat.le_refl _)])
      go_wp2
      go_ret
      exact ⟨_, rfl, by rw [← HAE.out]; exact OW.out.mono B1.out.size, B1.out.trans (BE.out.mono B1.out.size)⟩
end Go.Proofs.Ythhpddiicnjmmaa
