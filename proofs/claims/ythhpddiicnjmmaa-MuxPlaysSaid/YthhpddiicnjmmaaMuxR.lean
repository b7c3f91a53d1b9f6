/- Struct types of the program as Lean structures: how they lie in cells, and how readings are opened into them. Written by gen_types.py. A mux and the reference's beside each other: what holds between their steps; what each step leaves. The law's next: a transaction with the next number as a rule. -/
import Derived.Test.YthhpddiicnjmmaaTypesM
import Derived.Test.YthhpddiicnjmmaaRefT
import Derived.Test.YthhpddiicnjmmaaPlT
import Derived.Test.YthhpddiicnjmmaaMuxS
import Derived.Test.YthhpddiicnjmmaaRegC
import Derived.Deep.RegionHeld3
import Derived.Deep.QuietTactic
import Derived.BigQuiet
namespace Go.Proofs.Ythhpddiicnjmmaa
open Go.ChangeShapes Go.WideShapes Go.ChangeAt Go.RowKit Go.Deep

/-! ### qanat/qanatlaw27.Move -/
structure Mov where
  kind : Int
  id : Int
  table : Int
  after : Int
  rows : List Row

instance : Inhabited Mov := ⟨⟨0, 0, 0, 0, []⟩⟩
def Mov.lies (w : World) (S : Nat → Prop) (x : Mov) (cs : List Value) : Prop := ∃ c4 : Value, cs = [.int .i64 x.kind, .int .i64 x.id, .int .i64 x.table, .int .i64 x.after, c4] ∧ I64 x.kind ∧ I64 x.id ∧ I64 x.table ∧ I64 x.after ∧ (sliceRep rowRep).rel w S x.rows [c4]
def movRep : Rep Mov where
  size := 5
  pos := by omega
  rel := Mov.lies
  len := by rintro w S a cs ⟨c4, rfl, w0, w1, w2, w3, l0⟩; rfl
  one := by
    rintro w S a cs ⟨c4, rfl, w0, w1, w2, w3, l0⟩ u hu
    have k0 := (sliceRep rowRep).one l0 c4 (by simp)
    simp only [List.mem_cons, List.not_mem_nil, or_false] at hu
    rcases hu with rfl | rfl | rfl | rfl | rfl <;> first | rfl | assumption
  keep := by rintro w w' S a cs ⟨c4, rfl, w0, w1, w2, w3, l0⟩ hk; exact ⟨c4, rfl, w0, w1, w2, w3, (sliceRep rowRep).keep l0 hk⟩
  weak := by rintro w S S' a cs ⟨c4, rfl, w0, w1, w2, w3, l0⟩ hk; exact ⟨c4, rfl, w0, w1, w2, w3, (sliceRep rowRep).weak l0 hk⟩

set_option maxRecDepth 100000 in
theorem opens_mov {H : Type} {enc : TypeId × Value → H} {w : World} (o4 : Opens enc Try.prog w 81 (sliceRep rowRep)) : Opens enc Try.prog w 105 movRep := by
  intro fuel cs x h
  obtain ⟨xs, k, _, _, hlen, hxl, hf⟩ := DataW.trod_struct Try.underlying105 h
  rw [show Try.prog.cellsOf 105 = 5 from by kernel_rfl] at hlen
  match cs, hlen with
  | [v0, v1, v2, v3, v4], _ =>
    have hx : xs.length = 5 := hxl
    have h0 := (hf 0 _ rfl).trans (List.getElem?_eq_getElem (by omega))
    have e0 : DataW.trod enc Try.prog w 0 (fun _ => true) true k _ [v0] = some _ := h0
    obtain ⟨n0, q0, _, b0⟩ := DataW.trod_int (by kernel_rfl) e0
    obtain rfl : v0 = .int .i64 n0 := by simpa using q0
    have h1 := (hf 1 _ rfl).trans (List.getElem?_eq_getElem (by omega))
    have e1 : DataW.trod enc Try.prog w 0 (fun _ => true) true k _ [v1] = some _ := h1
    obtain ⟨n1, q1, _, b1⟩ := DataW.trod_int (by kernel_rfl) e1
    obtain rfl : v1 = .int .i64 n1 := by simpa using q1
    have h2 := (hf 2 _ rfl).trans (List.getElem?_eq_getElem (by omega))
    have e2 : DataW.trod enc Try.prog w 0 (fun _ => true) true k _ [v2] = some _ := h2
    obtain ⟨n2, q2, _, b2⟩ := DataW.trod_int (by kernel_rfl) e2
    obtain rfl : v2 = .int .i64 n2 := by simpa using q2
    have h3 := (hf 3 _ rfl).trans (List.getElem?_eq_getElem (by omega))
    have e3 : DataW.trod enc Try.prog w 0 (fun _ => true) true k _ [v3] = some _ := h3
    obtain ⟨n3, q3, _, b3⟩ := DataW.trod_int (by kernel_rfl) e3
    obtain rfl : v3 = .int .i64 n3 := by simpa using q3
    have h4 := (hf 4 _ rfl).trans (List.getElem?_eq_getElem (by omega))
    have e4 : DataW.trod enc Try.prog w 0 (fun _ => true) true k _ [v4] = some _ := h4
    obtain ⟨n4, b4⟩ := o4 _ _ _ e4
    exact ⟨⟨n0, n1, n2, n3, n4⟩, v4, rfl, i64_of_wf b0, i64_of_wf b1, i64_of_wf b2, i64_of_wf b3, b4⟩

end Go.Proofs.Ythhpddiicnjmmaa

set_option linter.unusedVariables false
set_option linter.unusedSimpArgs false
set_option maxRecDepth 100000
namespace Go.Proofs.Ythhpddiicnjmmaa
open Go.RowKit

section
variable {w w' : World} {S R : Nat → Prop} {gm g gx gw : Nat} {x y : Mx}
/-- Other blocks than the mux's have changed. -/
theorem WinOwn.outer {y : Win} (h : WinOwn w S g y) (r : Rest R w w') (hR : ∀ k, k < w.heap.size → ¬ S k → R k) : WinOwn w' S g y := by
  obtain ⟨rv, h⟩ := h
  exact ⟨rv, h.blk.rest r (hR g h.lt h.ng), h.own.rest r (fun k hk => hR k (h.own.row_lt hk) (h.nr k hk).1), h.ng, h.nr⟩
theorem MuxOwn.outer (h : MuxOwn w S gm g x) (r : Rest R w w') (hR : ∀ k, k < w.heap.size → ¬ S k → R k) : MuxOwn w' S gm g x := by
  obtain ⟨T, A, c, h⟩ := h
  exact ⟨T, A, c, h.blk.rest r (hR gm h.blk.lt h.nS), h.reqs.rest r (fun k hk => hR k (h.hT k hk) (h.dT k hk)), h.c1, h.c2, h.win.outer r (fun k hk hn => hR k hk (fun hs => hn (.inl hs))), fun k hk => Nat.lt_of_lt_of_le (h.hT k hk) r.size, h.nT, h.nS, h.dT⟩
theorem RefMx.rest {T : Nat → Prop} (h : RefMx w T gx gw y) (r : Rest S w w') (hT : ∀ k, T k → S k) (h1 : S gx) (h2 : S gw) : RefMx w' T gx gw y := by
  obtain ⟨A, c, h⟩ := h
  exact ⟨A, c, h.blk.rest r h1, h.reqs.rest r hT, h.win.rest r hT h2, fun k hk => Nat.lt_of_lt_of_le (h.hT k hk) r.size, h.nT, h.ne⟩
end

/-- A mux and the reference's, since the world w0; S: blocks that are not the mux's. -/
structure MPair (w0 w : World) (S : Nat → Prop) (gm g gx gw : Nat) (x y : Mx) : Prop where
  mux : MuxOwn w S gm g x
  ref : ∃ T, RefMx w T gx gw y ∧ (∀ k, T k → S k)
  inX : S gx
  inW : S gw
  hS : ∀ k, S k → k < w.heap.size
  old : ∀ k, k < w0.heap.size → S k
  bel : Below w0.heap.size w0 w
  baseX : w0.heap.size ≤ gx
  baseW : w0.heap.size ≤ gw

section
variable {w0 w w' : World} {S : Nat → Prop} {gm g gx gw : Nat} {x y z : Mx}
theorem MPair.below (h : MPair w0 w S gm g gx gw x y) (hb : Below w.heap.size w w') : MPair w0 w' (fun k => S k ∨ (w.heap.size ≤ k ∧ k < w'.heap.size)) gm g gx gw x y := by
  obtain ⟨T, hr, hT⟩ := h.ref
  exact ⟨h.mux.step hb, ⟨T, hr.below hb, fun k hk => .inl (hT k hk)⟩, .inl h.inX, .inl h.inW, fun k hk => hk.elim (fun e => Nat.lt_of_lt_of_le (h.hS k e) hb.size) (·.2), fun k hk => .inl (h.old k hk), h.bel.trans (hb.mono h.bel.size), h.baseX, h.baseW⟩
theorem MPair.muxStep (h : MPair w0 w S gm g gx gw x y) (o : MuxOwn w' S gm g z) (r : Rest S w w') : MPair w0 w' S gm g gx gw z y := by
  obtain ⟨T, hr, hT⟩ := h.ref
  exact ⟨o, ⟨T, hr.rest r hT h.inX h.inW, hT⟩, h.inX, h.inW, fun k hk => Nat.lt_of_lt_of_le (h.hS k hk) r.size, h.old, h.bel.trans (r.toBelow h.old), h.baseX, h.baseW⟩
theorem MPair.refStep {T : Nat → Prop} (h : MPair w0 w S gm g gx gw x y) (o : RefMx w' (fun k => T k ∨ (w.heap.size ≤ k ∧ k < w'.heap.size)) gx gw z) (hT : ∀ k, T k → S k) (r : Rest (RS w gx gw) w w') : MPair w0 w' (fun k => S k ∨ (w.heap.size ≤ k ∧ k < w'.heap.size)) gm g gx gw x z :=
  ⟨(h.mux.sets (S' := fun k => S k ∨ (w.heap.size ≤ k ∧ k < w'.heap.size)) (fun k hk => hk.elim .inl (fun e => .inr e.1))).outer r (fun k hk hn => ⟨hk, fun e => hn (.inl (e ▸ h.inX)), fun e => hn (.inl (e ▸ h.inW))⟩), ⟨_, o, fun k hk => hk.elim (fun e => .inl (hT k e)) .inr⟩, .inl h.inX, .inl h.inW, fun k hk => hk.elim (fun e => Nat.lt_of_lt_of_le (h.hS k e) r.size) (·.2), fun k hk => .inl (h.old k hk), h.bel.trans (r.toBelow (fun k hk => ⟨Nat.lt_of_lt_of_le hk h.bel.size, fun e => by have := h.baseX; omega, fun e => by have := h.baseW; omega⟩)), h.baseX, h.baseW⟩
theorem MPair.wins (h : MPair w0 w S gm g gx gw x y) : ∃ S1 : Nat → Prop, (∀ k, S1 k → k < w.heap.size) ∧ (∀ k, S k → S1 k) ∧ WinOwn w S1 g x.win ∧ (∀ w' z, WinOwn w' S1 g z → Rest S1 w w' → MPair w0 w' S gm g gx gw (x.setWin z) y) := by
  obtain ⟨T, A, c, hm⟩ := h.mux
  refine ⟨fun k => S k ∨ T k ∨ k = gm, fun k hk => ?_, fun k hk => .inl hk, hm.win, fun w' z o r => h.muxStep ⟨T, A, c, hm.newWin o r⟩ (r.less (fun k hk => .inl hk))⟩
  rcases hk with h1 | h1 | rfl
  · exact h.hS k h1
  · exact hm.hT k h1
  · exact hm.blk.lt
theorem MPair.refWin (h : MPair w0 w S gm g gx gw x y) : ∃ T, RefIn w T gw y.win ∧ (∀ k, T k → S k ∧ k ≠ gx ∧ k ≠ gw) ∧ (∀ w' z, RefIn w' (fun k => T k ∨ (w.heap.size ≤ k ∧ k < w'.heap.size)) gw z → w.grownBy w' (some gw) → MPair w0 w' (fun k => S k ∨ (w.heap.size ≤ k ∧ k < w'.heap.size)) gm g gx gw x (y.setWin z)) := by
  obtain ⟨T, ⟨A, c, hr⟩, hT⟩ := h.ref
  have hng : ¬ T gw := by obtain ⟨_, _, hw⟩ := hr.win; exact hw.ng
  refine ⟨T, hr.win, fun k hk => ⟨hT k hk, fun e => hr.nT (e ▸ hk), fun e => hng (e ▸ hk)⟩, fun w' z o gr => ?_⟩
  exact h.refStep ⟨A, c, hr.newWin o gr⟩ hT ⟨gr.os, gr.tape, gr.output, gr.size, fun k hk => gr.block k hk.1 (fun e => hk.2.2 (by injection e))⟩
theorem IsSl.one {α : Type} {R : Rep α} {b : Nat} {a : α} {cs : List Value} (hb : Blk w b cs) (hS : S b) (h : R.rel w S a cs) : IsSl R w S (some ⟨b, 0, none⟩) 1 [a] :=
  ⟨rfl, [cs], Rows.single h, fun _ => ⟨b, 0, rfl, hS, fun j u hu => by rw [Nat.zero_add]; exact hb.1 j u (by simpa using hu)⟩⟩
theorem IsSl.txnT {T : Nat → Prop} {n k : Nat} {A : Option Addr} {l : List Txn} (h : IsSl txnRep w T A n l) (hk : k < n) (hw : ∀ p : Addr, T p.block → w'.cell? p = w.cell? p) :
    ∃ b off x A2 n2 c2 A3 n3 c3, A = some ⟨b, off, none⟩ ∧ T b ∧ l[k]? = some x ∧ (I64 x.lsn ∧ I64 x.kind ∧ I64 x.mark) ∧ w'.cell? ⟨b, off + k * 5, none⟩ = some (.int .i64 x.lsn) ∧ w'.cell? ⟨b, off + k * 5 + 1, none⟩ = some (.int .i64 x.kind) ∧ w'.cell? ⟨b, off + k * 5 + 2, none⟩ = some (.slice A2 n2 c2) ∧ w'.cell? ⟨b, off + k * 5 + 3, none⟩ = some (.slice A3 n3 c3) ∧ w'.cell? ⟨b, off + k * 5 + 4, none⟩ = some (.int .i64 x.mark) ∧ IsSl chgRep w' T A2 n2 x.changes ∧ n2 ≤ c2 ∧ c2 ≤ maxLen ∧ IsSl strRep w' T A3 n3 x.signals ∧ n3 ≤ c3 ∧ c3 ≤ maxLen := by
  obtain ⟨b, off, x, cs, rfl, hb, hx, ⟨v2, v3, rfl, i0, i1, i2, ⟨A2, n2, c2, h2, s2, l2, m2⟩, ⟨A3, n3, c3, h3, s3, l3, m3⟩⟩, hc⟩ := h.at_ hk
  obtain rfl : v2 = .slice A2 n2 c2 := by simpa using h2
  obtain rfl : v3 = .slice A3 n3 c3 := by simpa using h3
  exact ⟨b, off, x, A2, n2, c2, A3, n3, c3, rfl, hb, hx, ⟨i0, i1, i2⟩, (hw _ hb).trans (hc 0 _ rfl), (hw _ hb).trans (hc 1 _ rfl), (hw _ hb).trans (hc 2 _ rfl), (hw _ hb).trans (hc 3 _ rfl), (hw _ hb).trans (hc 4 _ rfl), s2.keep hw, l2, m2, s3.keep hw, l3, m3⟩
end

/-! ### What is done to the two windows -/
theorem Win.Fine.opened {x : Win} (h : x.Fine) (mark id table after : Int) (hi : I64 id) (ht : I64 table) : (x.opened mark id table after).Fine := by
  unfold Win.opened
  split
  · exact ⟨h.n1, h.n2, by show ((0 : Nat) : Int) ≤ x.n; have := h.n1; omega, hi, ht, by show I64 0; unfold I64; omega⟩
  · exact h
theorem lastKey_i64 : ∀ (l : List Row) (k : Int), I64 k → (∀ r ∈ l, I64 r.key) → I64 (lastKey l k)
  | [], k, h, _ => by rw [lastKey_nil]; exact h
  | r :: t, k, _, hl => by rw [lastKey_cons]; exact lastKey_i64 t r.key (hl r (List.mem_cons_self ..)) (fun q hq => hl q (List.mem_cons_of_mem _ hq))
theorem Win.Fine.filled {x : Win} (h : x.Fine) (l : List Row) (ha : I64 x.after) (hl : ∀ r ∈ l, I64 r.key) : (x.filled l).Fine := by
  unfold Win.filled
  split
  · next hk =>
    unfold Win.fillOk at hk
    rw [Bool.and_eq_true] at hk
    exact ⟨h.n1, h.n2, (of_decide_eq_true hk.1).2, h.id, h.table, lastKey_i64 l x.after ha hl⟩
  · exact h
theorem Win.Fine.shut {x : Win} (h : x.Fine) : x.shut.Fine := by
  unfold Win.shut
  split
  · exact ⟨h.n1, h.n2, h.rows, h.id, h.table, h.cursor⟩
  · exact h
section
variable {w0 w : World} {S : Nat → Prop} {gm g gx gw : Nat} {x y : Mx}
theorem MPair.cellsX (h : MPair w0 w S gm g gx gw x y) : w.cell? ⟨gx, 2, none⟩ = some (.int .i64 y.at_) ∧ w.cell? ⟨gx, 4, none⟩ = some (.pointer (some ⟨gw, 0, none⟩)) := by
  obtain ⟨T, ⟨A, c, hr⟩, _⟩ := h.ref
  obtain ⟨g0, g1, g2, g3, g4, gz⟩ := hr.blk.c5
  exact ⟨g2, g4⟩
theorem MPair.drewN (h : MPair w0 w S gm g gx gw x y) (n : Nat) : MPair w0 (w.drewN n) S gm g gx gw x y := by
  obtain ⟨T, hr, hT⟩ := h.ref
  exact ⟨h.mux.drewN n, ⟨T, hr.below (below_drewN (Below.refl _ _) n), hT⟩, h.inX, h.inW, h.hS, h.old, below_drewN h.bel n, h.baseX, h.baseW⟩
theorem mp_open_w (h : MPair w0 w S gm g gx gw x y) (mark id table after : Int) :
    Calls Try.prog 98 #[.pointer (some ⟨g, 0, none⟩), .int .i64 mark, .int .i64 id, .int .i64 table, .int .i64 after] w fun e w' => e = .returned (.bool (x.win.openOk mark id table after)) ∧ MPair w0 w' S gm g gx gw (x.setWin (x.win.opened mark id table after)) y := by
  obtain ⟨S1, hS1, _, hw, hn⟩ := h.wins
  refine (winopen_any g S1 x.win mark id table after w hS1 hw).mono ?_
  rintro e w' ⟨rfl, o, r⟩
  exact ⟨rfl, hn w' _ o r⟩
theorem mp_open_r (h : MPair w0 w S gm g gx gw x y) (mark id table after : Int) :
    Calls Try.prog 99 #[.pointer (some ⟨gw, 0, none⟩), .int .i64 mark, .int .i64 id, .int .i64 table, .int .i64 after] w fun e w' => e = .returned (.bool (y.win.openOk mark id table after)) ∧ ∃ S', MPair w0 w' S' gm g gx gw x (y.setWin (y.win.opened mark id table after)) := by
  obtain ⟨T, hw, hT, hn⟩ := h.refWin
  refine (refWinOpen_any gw T y.win mark id table after w hw).mono ?_
  rintro e w' ⟨rfl, o, gr⟩
  refine ⟨rfl, _, hn w' _ (o.more (fun k hk => .inl hk) (fun k hk => hk.elim (fun ht => Nat.lt_of_lt_of_le (h.hS k (hT k ht).1) gr.size) (·.2)) (fun e => e.elim (fun ht => (hT _ ht).2.2 rfl) (fun e => by have := h.hS _ h.inW; omega))) gr⟩
theorem mp_shut_w (h : MPair w0 w S gm g gx gw x y) :
    Calls Try.prog 102 #[.pointer (some ⟨g, 0, none⟩)] w fun e w' => e = .returned (.bool (decide (x.win.state = 2))) ∧ MPair w0 w' S gm g gx gw (x.setWin x.win.shut) y := by
  obtain ⟨S1, hS1, _, hw, hn⟩ := h.wins
  refine (winshut_any g S1 x.win w hw).mono ?_
  rintro e w' ⟨rfl, o, r⟩
  exact ⟨rfl, hn w' _ o r⟩
theorem mp_shut_r (h : MPair w0 w S gm g gx gw x y) :
    Calls Try.prog 103 #[.pointer (some ⟨gw, 0, none⟩)] w fun e w' => e = .returned (.bool (decide (y.win.state = 2))) ∧ ∃ S', MPair w0 w' S' gm g gx gw x (y.setWin y.win.shut) := by
  obtain ⟨T, hw, hT, hn⟩ := h.refWin
  refine (refshut_any gw T y.win w hw).mono ?_
  rintro e w' ⟨rfl, o, gr⟩
  refine ⟨rfl, _, hn w' _ (o.more (fun k hk => .inl hk) (fun k hk => hk.elim (fun ht => Nat.lt_of_lt_of_le (h.hS k (hT k ht).1) gr.size) (·.2)) (fun e => e.elim (fun ht => (hT _ ht).2.2 rfl) (fun e => by have := h.hS _ h.inW; omega))) gr⟩
theorem mp_fill_w (h : MPair w0 w S gm g gx gw x y) (U : Nat → Prop) (A : Option Addr) (n c : Nat) (l : List Row) (hU : ∀ k, U k → S k) (hl : IsSl rowRep w U A n l) (hn : x.win.n ≤ 64) (hm : n ≤ maxLen) :
    Calls Try.prog 100 #[.pointer (some ⟨g, 0, none⟩), .slice A n c] w fun e w' => e = .returned (.bool (x.win.fillOk l)) ∧ MPair w0 w' S gm g gx gw (x.setWin (x.win.filled l)) y ∧ IsSl rowRep w' U A n l := by
  obtain ⟨S1, hS1, hSS, hw, hnx⟩ := h.wins
  refine (winfill_any g S1 x.win A n c l w hS1 hw U (fun k hk => hSS k (hU k hk)) hl hn hm).mono ?_
  rintro e w' ⟨rfl, o, r⟩
  exact ⟨rfl, hnx w' _ o r, hl.rest r (fun k hk => hSS k (hU k hk))⟩
theorem mp_fill_r (h : MPair w0 w S gm g gx gw x y) (U : Nat → Prop) (A : Option Addr) (n c : Nat) (l : List Row) (hU : ∀ k, U k → S k ∧ k ≠ gw) (hl : IsSl rowRep w U A n l) (hn : y.win.n ≤ 64) (hm : n ≤ maxLen) :
    Calls Try.prog 101 #[.pointer (some ⟨gw, 0, none⟩), .slice A n c] w fun e w' => e = .returned (.bool (y.win.fillOk l)) ∧ ∃ S', (∀ k, U k → S' k) ∧ MPair w0 w' S' gm g gx gw x (y.setWin (y.win.filled l)) ∧ IsSl rowRep w' U A n l := by
  obtain ⟨T, hw, hT, hnx⟩ := h.refWin
  refine (reffill_any gw T y.win A n c l w hw U (fun k hk => h.hS k (hU k hk).1) (fun e => (hU _ e).2 rfl) hl hn hm).mono ?_
  rintro e w' ⟨rfl, o, gr⟩
  exact ⟨rfl, _, fun k hk => .inl (hU k hk).1, hnx w' _ o gr, hl.keep (fun p hp => cell_grown gr (h.hS _ (hU _ hp).1) (fun e => (hU _ hp).2 (by injection e with e; exact e.symm)))⟩
end

/-- .. and where the window begins is a number. -/
def Mx.FineA (x : Mx) : Prop := x.Fine ∧ I64 x.win.after
theorem i64_0 : I64 0 := by unfold I64; omega
theorem Win.after_opened {x : Win} (h : I64 x.after) (mark id table after : Int) : I64 (x.opened mark id table after).after := by
  unfold Win.opened
  split
  · next hk =>
    have := of_decide_eq_true hk
    show I64 after
    unfold I64; omega
  · exact h
theorem Win.after_filled {x : Win} (h : I64 x.after) (l : List Row) : I64 (x.filled l).after := by unfold Win.filled; split <;> exact h
theorem Win.after_shut {x : Win} (h : I64 x.after) : I64 x.shut.after := by unfold Win.shut; split <;> exact h
theorem Win.after_see {x : Win} (h : I64 x.after) (l : List Chg) : I64 (x.see l).after := by unfold Win.see; split <;> exact h
theorem Win.after_low {x : Win} (h : I64 x.after) (m : Int) : I64 (x.low m).after := by unfold Win.low; split <;> exact h
theorem Win.after_told {x : Win} (h : I64 x.after) (m lsn : Int) : I64 (x.told m lsn).after := by unfold Win.told; split; exact i64_0; exact h
theorem Mx.FineA.take {x : Mx} (h : x.FineA) (t : Txn) : (x.takeM t).FineA := by
  refine ⟨h.1.take t, ?_⟩
  unfold Mx.takeM
  split
  · split
    · show I64 (((x.setAt t.lsn).accs t.lsn t.signals).1.win.see t.changes).after
      rw [(accs_keep (x.setAt t.lsn) t.lsn t.signals).2.2.1]
      exact Win.after_see h.2 _
    · split
      · exact Win.after_told h.2 _ _
      · exact Win.after_low h.2 _
  · exact h.2
end Go.Proofs.Ythhpddiicnjmmaa

set_option linter.unusedVariables false
set_option linter.unusedSimpArgs false
set_option maxRecDepth 100000
namespace Go.Proofs.Ythhpddiicnjmmaa
open Go.RowKit

/-- A transaction that a call has made; its lists lie in new blocks. -/
def NextPost (w : World) (e : Ending) (w' : World) : Prop :=
  ∃ y A n c A2 n2 c2, e = .returned (txnV y A n c A2 n2 c2) ∧ IsSl chgRep w' (fun k => w.heap.size ≤ k ∧ k < w'.heap.size) A n y.changes ∧ IsSl strRep w' (fun k => w.heap.size ≤ k ∧ k < w'.heap.size) A2 n2 y.signals ∧ Below w.heap.size w w'

theorem cell_set5 {w : World} {b : Nat} {p : Addr} (h : p.block ≠ b) (a0 a1 a2 a3 a4 : Value) : (((((w.setCell ⟨b, 0, none⟩ a0).setCell ⟨b, 1, none⟩ a1).setCell ⟨b, 2, none⟩ a2).setCell ⟨b, 3, none⟩ a3).setCell ⟨b, 4, none⟩ a4).cell? p = w.cell? p := by
  have h1 : ∀ (w : World) (j : Nat) (u : Value), (w.setCell ⟨b, j, none⟩ u).cell? p = w.cell? p := fun w j u => World.cell?_setCell_other _ _ _ _ (fun e => h (by rw [← e]))
  rw [h1, h1, h1, h1, h1]
theorem cell_drew (w : World) (p : Addr) : w.drew.cell? p = w.cell? p := rfl
theorem five5 {w : World} {b : Nat} {v0 v1 v2 v3 v4 u1 u2 u3 : Value} {p q r : Addr} (hb : Blk w b [v0, v1, v2, v3, v4]) (hp : p.block ≠ b) (hq : q.block ≠ b) (hr : r.block ≠ b) (k1 : w.cell? p = some u1) (k2 : w.cell? q = some u2) (k3 : w.cell? r = some u3) (a0 a1 a2 a3 a4 : Value) :
    ((((((w.setCell ⟨b, 0, none⟩ a0).setCell ⟨b, 1, none⟩ a1).setCell ⟨b, 2, none⟩ a2).setCell ⟨b, 3, none⟩ a3).setCell ⟨b, 4, none⟩ a4).drew).cell? ⟨b, 0, none⟩ = some a0 ∧ ((((((w.setCell ⟨b, 0, none⟩ a0).setCell ⟨b, 1, none⟩ a1).setCell ⟨b, 2, none⟩ a2).setCell ⟨b, 3, none⟩ a3).setCell ⟨b, 4, none⟩ a4).drew).cell? p = some u1 ∧ ((((((w.setCell ⟨b, 0, none⟩ a0).setCell ⟨b, 1, none⟩ a1).setCell ⟨b, 2, none⟩ a2).setCell ⟨b, 3, none⟩ a3).setCell ⟨b, 4, none⟩ a4).drew).cell? q = some u2 ∧ ((((((w.setCell ⟨b, 0, none⟩ a0).setCell ⟨b, 1, none⟩ a1).setCell ⟨b, 2, none⟩ a2).setCell ⟨b, 3, none⟩ a3).setCell ⟨b, 4, none⟩ a4).drew).cell? r = some u3 := by
  rw [cell_drew, cell_drew, cell_drew, cell_drew, cell_set5 hp, cell_set5 hq, cell_set5 hr]
  exact ⟨(((((hb.put (j := 0) (by simp) a0 (cs' := [a0, v1, v2, v3, v4]) rfl).put (j := 1) (by simp) a1 (cs' := [a0, a1, v2, v3, v4]) rfl).put (j := 2) (by simp) a2 (cs' := [a0, a1, a2, v3, v4]) rfl).put (j := 3) (by simp) a3 (cs' := [a0, a1, a2, a3, v4]) rfl).put (j := 4) (by simp) a4 (cs' := [a0, a1, a2, a3, a4]) rfl).c5.1, k1, k2, k3⟩
theorem wrap_tdiv3 {x : Int} (h : I64 x) : IntKind.i64.wrap (x.tdiv 3) = x.tdiv 3 := by
  obtain ⟨h1, h2⟩ := h
  refine IntWalk.i64_in _ ?_
  rcases Int.le_total 0 x with h0 | h0
  · rw [Int.tdiv_eq_ediv_of_nonneg h0]; omega
  · have : x.tdiv 3 = -((-x) / 3) := by rw [← Int.tdiv_eq_ediv_of_nonneg (by omega), Int.neg_tdiv, Int.neg_neg]
    rw [this]; omega

set_option maxHeartbeats 2000000 in
theorem next27_any (T : Nat → Prop) (gx gw : Nat) (x : Mx) (w : World) (h : RefMx w T gx gw x) (hf : x.Fine) (t : Txn) (A : Option Addr) (n c : Nat) (A2 : Option Addr) (n2 c2 : Nat) (hl : I64 t.lsn) (hk : I64 t.kind) (hm : I64 t.mark) (ht : IsSl chgRep w (· < w.heap.size) A n t.changes) (hnc : n ≤ c) (hc : c ≤ maxLen) (hs : IsSl strRep w (· < w.heap.size) A2 n2 t.signals) (hnc2 : n2 ≤ c2) (hc2 : c2 ≤ maxLen) (tn : Nat) (ti : Int) (hti : ti = (tn : Int)) (ht0 : 0 < tn) (ht8 : tn ≤ 8) :
    Calls Try.prog 44 #[.pointer (some ⟨gx, 0, none⟩), txnV t A n c A2 n2 c2, .int .i64 ti] w (NextPost w) := by
  unfold txnV
  have HO := Lib.hid h
  have HL := Lib.hid hl
  have HKK := Lib.hid hk
  obtain ⟨tl, tk, tch, tsg, tm⟩ := t
  dsimp only at hl hk hm ht hs HL HKK ⊢
  obtain ⟨TB, hTB⟩ : ∃ TB, TB = w.heap.size := ⟨_, rfl⟩
  obtain ⟨RB, hRB⟩ : ∃ RB, RB = w.heap.size + 1 := ⟨_, rfl⟩
  obtain ⟨VB, hVB⟩ : ∃ VB, VB = w.heap.size + 1 + 1 := ⟨_, rfl⟩
  obtain ⟨W, hW⟩ : ∃ W, W = ((w.alloc (.cells #[.int .i64 tl, .int .i64 tk, .slice A n c, .slice A2 n2 c2, .int .i64 tm] 68)).alloc (.cells #[.int .i64 0, .int .i64 0, .slice none 0 0, .slice none 0 0, .int .i64 0] 68)).alloc (.cells #[.int .i64 tl, .int .i64 tk, .slice A n c, .slice A2 n2 c2, .int .i64 tm] 68) := ⟨_, rfl⟩
  have hb : Below w.heap.size w W := by rw [hW]; exact (((Below.refl _ _).alloc (Nat.le_refl _) _).alloc (by simp) _).alloc (by simp; omega) _
  have hWs : W.heap.size = w.heap.size + 3 := by rw [hW]; simp
  have BT := Lib.hid (show Blk W TB [.int .i64 tl, .int .i64 tk, .slice A n c, .slice A2 n2 c2, .int .i64 tm] by rw [hW, hTB]; exact ((Blk.new rfl rfl).alloc _).alloc _)
  have BR := Lib.hid (show Blk W RB [.int .i64 0, .int .i64 0, .slice none 0 0, .slice none 0 0, .int .i64 0] by rw [hW, hRB]; exact (Blk.new rfl (by simp)).alloc _)
  have BV := Lib.hid (show Blk W VB [.int .i64 tl, .int .i64 tk, .slice A n c, .slice A2 n2 c2, .int .i64 tm] by rw [hW, hVB]; exact Blk.new rfl (by simp))
  have HLI := Lib.hid (show IsSl txnRep W (· < W.heap.size) (some ⟨VB, 0, none⟩) 1 [⟨tl, tk, tch, tsg, tm⟩] from IsSl.one BV.out (by omega) ⟨_, _, rfl, hl, hk, hm, ⟨A, n, c, rfl, (ht.below hb).more hb.size, hnc, hc⟩, ⟨A2, n2, c2, rfl, (hs.below hb).more hb.size, hnc2, hc2⟩⟩)
  have HW := Lib.hid hW
  have H1 := Lib.hid hTB
  have H2 := Lib.hid hRB
  have H3 := Lib.hid hVB
  have HB := Lib.hid hb
  have HWs := Lib.hid hWs
  have HM := Lib.hid (h.below hb)
  have HFX := Lib.hid (show 0 ≤ x.at_ ∧ x.at_ ≤ 1099511627776 from ⟨hf.a1, hf.a2⟩)
  have hgx := h.parts.1
  have hgw := h.parts.2.1
  have HTI := Lib.hid hti
  clear hW hTB hRB hVB hb hWs ht hs h hf hl hk hm hti
  go_enter Try.func44, Try.ntmps44
  go_upto_region 2 with (first
    | (go_at_call 26; rw [← HW.out, ← H3.out]; (with_reducible refine (playTxns_any (some ⟨VB, 0, none⟩) 1 1 [⟨tl, tk, tch, tsg, tm⟩] tn ti HTI.out ht0 ht8 1 1 rfl (by omega) W HLI.out).mono ?_); rintro e w1 ⟨v1, rfl, ⟨S1, hS1, own1⟩, bel1⟩; rw [show playTxns tn 1 [⟨tl, tk, tch, tsg, tm⟩] = [playTxn tn 0 ⟨tl, tk, tch, tsg, tm⟩] from rfl] at own1; obtain ⟨A1, c1, rfl, l1, m1, sl1⟩ := own1.isSl (S' := fun k => W.heap.size ≤ k ∧ k < w1.heap.size) (fun b hb => ⟨hS1 b hb, own1.1 b hb⟩) (fun g h1 h2 => ⟨h1, h2⟩); rw [show [playTxn tn 0 ⟨tl, tk, tch, tsg, tm⟩].length = 1 from rfl] at sl1 ⊢; obtain ⟨b5, o5, ⟨yl, yk, yc, ys, ym⟩, A5, n5, c5, A6, n6, c6, rfl, hb5, hy5, hi5, k0, k1, k2, k3, k4, s5, _, _, s6, _, _⟩ := sl1.txnT (w' := w1) (k := 0) (by omega) (fun _ _ => rfl); rw [Nat.zero_mul, Nat.add_zero] at k0 k1 k2 k3 k4; dsimp only at k0 k1 k2 k3 k4 s5 s6; have S5 := Lib.hid s5; have S6 := Lib.hid s6; have B1 := Lib.hid bel1; clear own1 bel1 sl1 l1 m1 s5 s6 hy5 hi5 hb5)
    | fail)
  rw [← H2.out, ← H1.out]
  obtain ⟨YB, hYB⟩ : ∃ YB, YB = w1.heap.size := ⟨_, rfl⟩
  obtain ⟨W2, hW2⟩ : ∃ W2, W2 = w1.alloc (.cells #[.int .i64 yl, .int .i64 yk, .slice A5 n5 c5, .slice A6 n6 c6, .int .i64 ym] 68) := ⟨_, rfl⟩
  have B2 := Lib.hid (show Below w1.heap.size w1 W2 by rw [hW2]; exact (Below.refl _ _).alloc (Nat.le_refl _) _)
  have BY := Lib.hid (show Blk W2 YB [.int .i64 yl, .int .i64 yk, .slice A5 n5 c5, .slice A6 n6 c6, .int .i64 ym] by rw [hW2]; exact Blk.new rfl hYB)
  rw [← hYB, ← hW2]
  have HYB := Lib.hid hYB
  clear hYB hW2 k0 k1 k2 k3 k4
  have BW2 := Lib.hid (show Below W.heap.size W W2 from B1.out.trans (B2.out.mono B1.out.size))
  have BT2 := Lib.hid (BT.out.after BW2.out)
  have BR2 := Lib.hid (BR.out.after BW2.out)
  have HM2 := Lib.hid (HM.out.below BW2.out)
  have S5' := Lib.hid (show IsSl chgRep W2 (fun k => W.heap.size ≤ k ∧ k < w1.heap.size) A5 n5 yc from S5.out.keep (fun p hp => B2.out.cell hp.2))
  have S6' := Lib.hid (show IsSl strRep W2 (fun k => W.heap.size ≤ k ∧ k < w1.heap.size) A6 n6 ys from S6.out.keep (fun p hp => B2.out.cell hp.2))
  have HYW := Lib.hid (show W.heap.size ≤ YB by rw [HYB.out]; exact B1.out.size)
  obtain ⟨Ax, cx, hmx⟩ := HM2.out
  obtain ⟨g0, g1, g2, g3, g4, gz⟩ := hmx.blk.c5
  obtain ⟨y0, y1, y2, y3, y4, yz⟩ := BY.out.c5
  have hat0 := HFX.out.1
  have hat1 := HFX.out.2
  clear hmx
  go_upto_region 3 with fail
  obtain ⟨W3, hW3⟩ : ∃ W3, W3 = W2.setCell ⟨YB, 0, none⟩ (.int .i64 (x.at_ + 1)) := ⟨_, rfl⟩
  have BY3 := Lib.hid (show Blk W3 YB [.int .i64 (x.at_ + 1), .int .i64 yk, .slice A5 n5 c5, .slice A6 n6 c6, .int .i64 ym] by rw [hW3]; exact BY.out.put (j := 0) (by simp) _ rfl)
  have BW3 := Lib.hid (show Below W.heap.size W W3 by rw [hW3]; exact BW2.out.setCell HYW.out _)
  have S53 := Lib.hid (show IsSl chgRep W3 (fun k => W.heap.size ≤ k ∧ k < w1.heap.size) A5 n5 yc by rw [hW3]; exact S5'.out.keepSet (by rw [HYB.out]; omega) _ _)
  have S63 := Lib.hid (show IsSl strRep W3 (fun k => W.heap.size ≤ k ∧ k < w1.heap.size) A6 n6 ys by rw [hW3]; exact S6'.out.keepSet (by rw [HYB.out]; omega) _ _)
  have BT3 := Lib.hid (BT.out.after BW3.out)
  rw [← hW3]
  clear hW3 g0 g1 g2 g3 g4 gz y0 y1 y2 y3 y4 yz hat0 hat1
  obtain ⟨t0, t1, t2, t3, t4, tz⟩ := BT3.out.c5
  obtain ⟨y0, y1, y2, y3, y4, yz⟩ := BY3.out.c5
  by_cases e1 : modOf tl 17 = 16
  case' pos =>
    have d1 : (modOf tl 17 == 16) = true := by simpa using e1
    clear e1
    go_upto_region 5 with (first
      | (go_at_call 17; (with_reducible refine (big_any tl 17 _ (by omega) (by omega)).mono ?_); rintro e w' ⟨rfl, rfl⟩)
      | fail)
    obtain ⟨W4, hW4⟩ : ∃ W4, W4 = W3.setCell ⟨YB, 0, none⟩ (.int .i64 tl) := ⟨_, rfl⟩
    have BY4 := Lib.hid (show Blk W4 YB [.int .i64 tl, .int .i64 yk, .slice A5 n5 c5, .slice A6 n6 c6, .int .i64 ym] by rw [hW4]; exact BY3.out.put (j := 0) (by simp) _ rfl)
    have BW4 := Lib.hid (show Below W.heap.size W W4 by rw [hW4]; exact BW3.out.setCell HYW.out _)
    have S54 := Lib.hid (show IsSl chgRep W4 (fun k => W.heap.size ≤ k ∧ k < w1.heap.size) A5 n5 yc by rw [hW4]; exact S53.out.keepSet (by rw [HYB.out]; omega) _ _)
    have S64 := Lib.hid (show IsSl strRep W4 (fun k => W.heap.size ≤ k ∧ k < w1.heap.size) A6 n6 ys by rw [hW4]; exact S63.out.keepSet (by rw [HYB.out]; omega) _ _)
    rw [← hW4]
    obtain ⟨yl4, hyl4⟩ : ∃ q, q = tl := ⟨_, rfl⟩
    rw [← hyl4] at BY4
    clear hW4 hyl4
  case' neg =>
    have d1 : (modOf tl 17 == 16) = false := by simpa using e1
    clear e1
    go_upto_region 5 with (first
      | (go_at_call 17; (with_reducible refine (big_any tl 17 _ (by omega) (by omega)).mono ?_); rintro e w' ⟨rfl, rfl⟩)
      | fail)
    obtain ⟨yl4, hyl4⟩ : ∃ q, q = x.at_ + 1 := ⟨_, rfl⟩
    rw [← hyl4] at BY3
    have BY4 := BY3
    have BW4 := BW3
    have S54 := S53
    have S64 := S63
    obtain ⟨W4, rfl⟩ : ∃ q : World, q = W3 := ⟨_, rfl⟩
    clear hyl4
  all_goals
    have BT4 := Lib.hid (BT.out.after BW4.out)
    have BR4 := Lib.hid (BR.out.after BW4.out)
    have HM4 := Lib.hid (HM.out.below BW4.out)
    clear t0 t1 t2 t3 t4 tz y0 y1 y2 y3 y4 yz
    obtain ⟨t0, t1, t2, t3, t4, tz⟩ := BT4.out.c5
    obtain ⟨y0, y1, y2, y3, y4, yz⟩ := BY4.out.c5
    obtain ⟨r0, r1, r2, r3, r4, rz⟩ := BR4.out.c5
    by_cases e2 : modOf tk 3 = 2
    case neg =>
      have d2 : (modOf tk 3 == 2) = false := by simpa using e2
      have hyr : (YB = RB) = False := by simp; have := HYW.out; have := HWs.out; have := H2.out; omega
      have hry : (RB = YB) = False := by simp; have := HYW.out; have := HWs.out; have := H2.out; omega
      clear e2
      go_wp2_with (first
        | (go_at_call 19; (with_reducible refine (mod_any tk 3 _ (by omega) (by omega)).mono ?_); rintro e w' ⟨rfl, rfl⟩)
        | fail)
      obtain ⟨W9, hW9⟩ : ∃ W9, W9 = (((((W4.setCell ⟨RB, 0, none⟩ (.int .i64 yl4)).setCell ⟨RB, 1, none⟩ (.int .i64 yk)).setCell ⟨RB, 2, none⟩ (.slice A5 n5 c5)).setCell ⟨RB, 3, none⟩ (.slice A6 n6 c6)).setCell ⟨RB, 4, none⟩ (.int .i64 ym)) := ⟨_, rfl⟩
      have BR9 := Lib.hid (show Blk W9 RB [.int .i64 yl4, .int .i64 yk, .slice A5 n5 c5, .slice A6 n6 c6, .int .i64 ym] by rw [hW9]; exact ((((BR4.out.put (j := 0) (by simp) _ rfl).put (j := 1) (by simp) _ rfl).put (j := 2) (by simp) _ rfl).put (j := 3) (by simp) _ rfl).put (j := 4) (by simp) _ rfl)
      have hRW : w.heap.size ≤ RB := by rw [H2.out]; omega
      have hRn : ¬ (W.heap.size ≤ RB ∧ RB < w1.heap.size) := fun h => by have := HWs.out; have := H2.out; omega
      have B9 := (show Below w.heap.size w W9 by rw [hW9]; exact (((((HB.out.trans (BW4.out.mono HB.out.size)).setCell hRW _).setCell hRW _).setCell hRW _).setCell hRW _).setCell hRW _)
      have S59 := (show IsSl chgRep W9 (fun k => W.heap.size ≤ k ∧ k < w1.heap.size) A5 n5 yc by rw [hW9]; exact ((((S54.out.keepSet hRn _ _).keepSet hRn _ _).keepSet hRn _ _).keepSet hRn _ _).keepSet hRn _ _)
      have S69 := (show IsSl strRep W9 (fun k => W.heap.size ≤ k ∧ k < w1.heap.size) A6 n6 ys by rw [hW9]; exact ((((S64.out.keepSet hRn _ _).keepSet hRn _ _).keepSet hRn _ _).keepSet hRn _ _).keepSet hRn _ _)
      have hs9 : w1.heap.size ≤ W9.heap.size := by rw [hW9]; simp; rw [← HYB.out]; exact Nat.le_of_lt BY4.out.lt
      rw [← hW9]
      clear hW9 r0 r1 r2 r3 r4 rz
      obtain ⟨r0, r1, r2, r3, r4, rz⟩ := BR9.out.c5
      refine bodyPost_ret (by simp [results, Try.results44, go_sem, r0, r1, r2, r3, r4]; try rfl) rfl ?_
      refine ⟨⟨yl4, yk, yc, ys, ym⟩, A5, n5, c5, A6, n6, c6, rfl, S59.weak (fun k hk => ⟨Nat.le_trans HB.out.size hk.1, Nat.lt_of_lt_of_le hk.2 hs9⟩), S69.weak (fun k hk => ⟨Nat.le_trans HB.out.size hk.1, Nat.lt_of_lt_of_le hk.2 hs9⟩), B9⟩
    case pos =>
      have d2 : (modOf tk 3 == 2) = true := by simpa using e2
      clear e2
      go_upto_region 6 with (first
        | (go_at_call 19; (with_reducible refine (mod_any tk 3 _ (by omega) (by omega)).mono ?_); rintro e w' ⟨rfl, rfl⟩)
        | fail)
      obtain ⟨Ax, cx, hmx⟩ := HM4.out
      obtain ⟨Aw, cw, hwx⟩ := hmx.win
      obtain ⟨g0, g1, g2, g3, g4, gz⟩ := hmx.blk.c5
      obtain ⟨m0, m1, m2, m3, m4, m5, m6, m7, m8, mz⟩ := hwx.blk.c9
      clear hmx hwx
      have HK0 := Lib.hid (show W4.cell? ⟨YB, 0, none⟩ = some (.int .i64 yl4) ∧ W4.cell? ⟨TB, 1, none⟩ = some (.int .i64 tk) ∧ W4.cell? ⟨gx, 4, none⟩ = some (.pointer (some ⟨gw, 0, none⟩)) ∧ W4.cell? ⟨gw, 4, none⟩ = some (.int .i64 x.win.mark) from ⟨y0, t1, g4, m4⟩)
      obtain ⟨kq, hkq⟩ : ∃ kq, kq = modOf (tk.tdiv 3) 2 := ⟨_, rfl⟩
      have hkr := modOf_range (tk.tdiv 3) 2 (by omega)
      rw [← hkq] at hkr
      obtain ⟨hkr0, hkr1⟩ := hkr
      have HKQ := Lib.hid hkq
      have hq2 : IntKind.i64.wrap (2 + kq) = 2 + kq := IntWalk.i64_in _ (by omega)
      have hq1 : IntKind.i64.wrap (tk.tdiv 3) = tk.tdiv 3 := wrap_tdiv3 HKK.out
      obtain ⟨tq, htq⟩ : ∃ tq, tq = tk.tdiv 3 := ⟨_, rfl⟩
      rw [← htq] at hq1
      have HTQ := Lib.hid htq
      have hwq : IntKind.i64.wrap (tk.tdiv 3) = tk.tdiv 3 := by rw [← htq]; exact hq1
      clear hkq htq hq1
      have HMD := Lib.hid (show ∀ w, Calls Try.prog 19 #[.int .i64 (tk.tdiv 3), .int .i64 2] w fun e w' => e = .returned (.int .i64 kq) ∧ w = w' from fun w => by rw [HKQ.out]; exact mod_any (tk.tdiv 3) 2 w (by omega) (by omega))
      have hyl0 : YB < W4.heap.size := BY4.out.lt
      have hYT : (⟨TB, 1, none⟩ : Addr).block ≠ YB := by have := HYW.out; have := HWs.out; have := H1.out; show TB ≠ YB; omega
      have hYG : (⟨gx, 4, none⟩ : Addr).block ≠ YB := by have := HYW.out; have := HWs.out; show gx ≠ YB; omega
      have hYV : (⟨gw, 4, none⟩ : Addr).block ≠ YB := by have := HYW.out; have := HWs.out; show gw ≠ YB; omega
      have HX6 := Lib.hid (fun a4 : Value => five5 BY4.out hYT hYG hYV HK0.out.2.1 HK0.out.2.2.1 HK0.out.2.2.2 (.int .i64 yl4) (.int .i64 (2 + kq)) (.slice none 0 0) (.slice none 0 0) a4)
      refine wp_region_held_drew (S := fun w' => w'.cell? ⟨YB, 0, none⟩ = some (.int .i64 yl4) ∧ w'.cell? ⟨TB, 1, none⟩ = some (.int .i64 tk) ∧ w'.cell? ⟨gx, 4, none⟩ = some (.pointer (some ⟨gw, 0, none⟩)) ∧ w'.cell? ⟨gw, 4, none⟩ = some (.int .i64 x.win.mark)) (by kernel_rfl) (HK0.out) (fun hHeld => ?_)
      (refine wpAnyH_take (i := 0) (v := ?_) rfl (by kernel_rfl) (by kernel_rfl) (by kernel_rfl) (fun _ _ _ h => h) (Or.inl ⟨by rfl, ?_⟩) hHeld ?_; rotate_left 1; focus (intro w hSw; (try dsimp only at hSw); go_simp; try with_reducible rfl)); (try simp only [Act.put, List.getElem_toArray, List.getElem_cons_zero, List.getElem_cons_succ, List.setIfInBounds_toArray, List.set_cons_zero, List.set_cons_succ])
      (refine wpAnyH_take (i := 1) (v := ?_) rfl (by kernel_rfl) (by kernel_rfl) (by kernel_rfl) (fun _ _ _ h => h) (Or.inl ⟨by rfl, ?_⟩) hHeld ?_; rotate_left 1; focus (intro w hSw; (try dsimp only at hSw); go_simp; try with_reducible rfl)); (try simp only [Act.put, List.getElem_toArray, List.getElem_cons_zero, List.getElem_cons_succ, List.setIfInBounds_toArray, List.set_cons_zero, List.set_cons_succ])
      (refine wpAnyH_take (i := 2) (v := ?_) rfl (by kernel_rfl) (by kernel_rfl) (by kernel_rfl) (fun _ _ _ h => h) (Or.inl ⟨by rfl, ?_⟩) hHeld ?_; rotate_left 1; focus (intro w hSw; (try dsimp only at hSw); go_simp; try with_reducible rfl)); (try simp only [Act.put, List.getElem_toArray, List.getElem_cons_zero, List.getElem_cons_succ, List.setIfInBounds_toArray, List.set_cons_zero, List.set_cons_succ])
      (refine wpAnyH_take (i := 3) (v := ?_) rfl (by kernel_rfl) (by kernel_rfl) (by kernel_rfl) (fun _ _ _ h => h) (Or.inl ⟨by rfl, ?_⟩) hHeld ?_; rotate_left 1; focus (intro w hSw; (try dsimp only at hSw); go_simp; try with_reducible rfl)); (try simp only [Act.put, List.getElem_toArray, List.getElem_cons_zero, List.getElem_cons_succ, List.setIfInBounds_toArray, List.set_cons_zero, List.set_cons_succ])
      (refine wpAnyH_take (i := 4) (v := ?_) rfl (by kernel_rfl) (by kernel_rfl) (by kernel_rfl) (fun _ _ _ h => h) (Or.inl ⟨by rfl, ?_⟩) hHeld ?_; rotate_left 1; focus (intro w hSw; (try dsimp only at hSw); go_simp; try with_reducible rfl)); (try simp only [Act.put, List.getElem_toArray, List.getElem_cons_zero, List.getElem_cons_succ, List.setIfInBounds_toArray, List.set_cons_zero, List.set_cons_succ])
      refine wpAnyH_call (i := 5) (v := .int .i64 kq) rfl (by kernel_rfl) (by kernel_rfl) (by kernel_rfl) (fun _ _ _ h => h) ⟨by rfl, 19, #[.int .i64 (tk.tdiv 3), .int .i64 2], fun w hSw => ⟨by (go_simp; try with_reducible rfl), HMD.out w⟩⟩ hHeld ?_; (try simp only [Act.put, List.getElem_toArray, List.getElem_cons_zero, List.getElem_cons_succ, List.setIfInBounds_toArray, List.set_cons_zero, List.set_cons_succ])
      (refine wpAnyH_take (i := 6) (v := ?_) rfl (by kernel_rfl) (by kernel_rfl) (by kernel_rfl) (fun _ _ _ h => h) (Or.inl ⟨by rfl, ?_⟩) hHeld ?_; rotate_left 1; focus (intro w hSw; (try dsimp only at hSw); go_simp; try with_reducible rfl)); (try simp only [Act.put, List.getElem_toArray, List.getElem_cons_zero, List.getElem_cons_succ, List.setIfInBounds_toArray, List.set_cons_zero, List.set_cons_succ])
      (refine wpAnyH_take (i := 7) (v := ?_) rfl (by kernel_rfl) (by kernel_rfl) (by kernel_rfl) (fun _ _ _ h => h) (Or.inl ⟨by rfl, ?_⟩) hHeld ?_; rotate_left 1; focus (intro w hSw; (try dsimp only at hSw); go_simp; try with_reducible rfl)); (try simp only [Act.put, List.getElem_toArray, List.getElem_cons_zero, List.getElem_cons_succ, List.setIfInBounds_toArray, List.set_cons_zero, List.set_cons_succ])
      (refine wpAnyH_take (i := 8) (v := ?_) rfl (by kernel_rfl) (by kernel_rfl) (by kernel_rfl) (fun _ _ _ h => h) (Or.inl ⟨by rfl, ?_⟩) hHeld ?_; rotate_left 1; focus (intro w hSw; (try dsimp only at hSw); go_simp; try with_reducible rfl)); (try simp only [Act.put, List.getElem_toArray, List.getElem_cons_zero, List.getElem_cons_succ, List.setIfInBounds_toArray, List.set_cons_zero, List.set_cons_succ])
      (refine wpAnyH_take (i := 9) (v := ?_) rfl (by kernel_rfl) (by kernel_rfl) (by kernel_rfl) (fun _ _ _ h => h) (Or.inl ⟨by rfl, ?_⟩) hHeld ?_; rotate_left 1; focus (intro w hSw; (try dsimp only at hSw); go_simp; try with_reducible rfl)); (try simp only [Act.put, List.getElem_toArray, List.getElem_cons_zero, List.getElem_cons_succ, List.setIfInBounds_toArray, List.set_cons_zero, List.set_cons_succ])
      (refine wpAnyH_take (i := 10) (v := ?_) rfl (by kernel_rfl) (by kernel_rfl) (by kernel_rfl) (fun _ _ _ h => h) (Or.inl ⟨by rfl, ?_⟩) hHeld ?_; rotate_left 1; focus (intro w hSw; (try dsimp only at hSw); go_simp; try with_reducible rfl)); (try simp only [Act.put, List.getElem_toArray, List.getElem_cons_zero, List.getElem_cons_succ, List.setIfInBounds_toArray, List.set_cons_zero, List.set_cons_succ])
      (refine wpAnyH_take (i := 11) (v := ?_) rfl (by kernel_rfl) (by kernel_rfl) (by kernel_rfl) (fun _ _ _ h => h) (Or.inl ⟨by rfl, ?_⟩) hHeld ?_; rotate_left 1; focus (intro w hSw; (try dsimp only at hSw); go_simp; try with_reducible rfl)); (try simp only [Act.put, List.getElem_toArray, List.getElem_cons_zero, List.getElem_cons_succ, List.setIfInBounds_toArray, List.set_cons_zero, List.set_cons_succ])
      (refine wpAnyH_take (i := 12) (v := ?_) rfl (by kernel_rfl) (by kernel_rfl) (by kernel_rfl) (fun _ _ _ h => h) (Or.inl ⟨by rfl, ?_⟩) hHeld ?_; rotate_left 1; focus (intro w hSw; (try dsimp only at hSw); go_simp; try with_reducible rfl)); (try simp only [Act.put, List.getElem_toArray, List.getElem_cons_zero, List.getElem_cons_succ, List.setIfInBounds_toArray, List.set_cons_zero, List.set_cons_succ])
      (refine wpAnyH_take (i := 13) (v := ?_) rfl (by kernel_rfl) (by kernel_rfl) (by kernel_rfl) (fun _ _ _ h => h) (Or.inl ⟨by rfl, ?_⟩) hHeld ?_; rotate_left 1; focus (intro w hSw; (try dsimp only at hSw); go_simp; try with_reducible rfl)); (try simp only [Act.put, List.getElem_toArray, List.getElem_cons_zero, List.getElem_cons_succ, List.setIfInBounds_toArray, List.set_cons_zero, List.set_cons_succ])
      (refine wpAnyH_take (i := 14) (v := ?_) rfl (by kernel_rfl) (by kernel_rfl) (by kernel_rfl) (fun _ _ _ h => h) (Or.inl ⟨by rfl, ?_⟩) hHeld ?_; rotate_left 1; focus (intro w hSw; (try dsimp only at hSw); go_simp; try with_reducible rfl)); (try simp only [Act.put, List.getElem_toArray, List.getElem_cons_zero, List.getElem_cons_succ, List.setIfInBounds_toArray, List.set_cons_zero, List.set_cons_succ])
      (refine wpAnyH_take (i := 15) (v := ?_) rfl (by kernel_rfl) (by kernel_rfl) (by kernel_rfl) (fun _ _ _ h => h) (Or.inl ⟨by rfl, ?_⟩) hHeld ?_; rotate_left 1; focus (intro w hSw; (try dsimp only at hSw); go_simp; try with_reducible rfl)); (try simp only [Act.put, List.getElem_toArray, List.getElem_cons_zero, List.getElem_cons_succ, List.setIfInBounds_toArray, List.set_cons_zero, List.set_cons_succ])
      refine wpAnyH_ready (rs := [16]) (by kernel_rfl) (by simp) ?_
      refine AllReadyH.cons rfl (fun K hK => ?_) AllReadyH.nil
      go_simp
      refine hK.out _ _ (HX6.out _) (fun hHeld2 => ?_)
      clear hK K hHeld; have hHeld := hHeld2; clear hHeld2; (try simp only [Act.put, List.getElem_toArray, List.getElem_cons_zero, List.getElem_cons_succ, List.setIfInBounds_toArray, List.set_cons_zero, List.set_cons_succ])
      refine wpAnyH_done (by kernel_rfl) ?_ _
      obtain ⟨mm, hmm⟩ : ∃ mm, mm = max x.win.mark 1 := ⟨_, rfl⟩
      rw [← hmm]
      obtain ⟨W5, hW5⟩ : ∃ W5, W5 = (((((W4.setCell ⟨YB, 0, none⟩ (.int .i64 yl4)).setCell ⟨YB, 1, none⟩ (.int .i64 (2 + kq))).setCell ⟨YB, 2, none⟩ (.slice none 0 0)).setCell ⟨YB, 3, none⟩ (.slice none 0 0)).setCell ⟨YB, 4, none⟩ (.int .i64 mm)).drew := ⟨_, rfl⟩
      have hYR : RB ≠ YB := by have := HYW.out; have := HWs.out; have := H2.out; omega
      have BY5 := Lib.hid (show Blk W5 YB [.int .i64 yl4, .int .i64 (2 + kq), .slice none 0 0, .slice none 0 0, .int .i64 mm] by rw [hW5]; exact (((((BY4.out.put (j := 0) (by simp) _ rfl).put (j := 1) (by simp) _ rfl).put (j := 2) (by simp) _ rfl).put (j := 3) (by simp) _ rfl).put (j := 4) (by simp) _ rfl).drew)
      have BR5 := Lib.hid (show Blk W5 RB [.int .i64 0, .int .i64 0, .slice none 0 0, .slice none 0 0, .int .i64 0] by rw [hW5]; exact (((((BR4.out.other hYR _ _).other hYR _ _).other hYR _ _).other hYR _ _).other hYR _ _).drew)
      have BW5 := Lib.hid (show Below W.heap.size W W5 by rw [hW5]; exact below_drewN (((((BW4.out.setCell HYW.out _).setCell HYW.out _).setCell HYW.out _).setCell HYW.out _).setCell HYW.out _) 1)
      rw [← hW5]
      clear hW5 hmm t0 t1 t2 t3 t4 tz y0 y1 y2 y3 y4 yz r0 r1 r2 r3 r4 rz g0 g1 g2 g3 g4 gz m0 m1 m2 m3 m4 m5 m6 m7 m8 mz
      obtain ⟨y0, y1, y2, y3, y4, yz⟩ := BY5.out.c5
      obtain ⟨r0, r1, r2, r3, r4, rz⟩ := BR5.out.c5
      go_wp2
      obtain ⟨W9, hW9⟩ : ∃ W9, W9 = (((((W5.setCell ⟨RB, 0, none⟩ (.int .i64 yl4)).setCell ⟨RB, 1, none⟩ (.int .i64 (2 + kq))).setCell ⟨RB, 2, none⟩ (.slice none 0 0)).setCell ⟨RB, 3, none⟩ (.slice none 0 0)).setCell ⟨RB, 4, none⟩ (.int .i64 mm)) := ⟨_, rfl⟩
      have BR9 := Lib.hid (show Blk W9 RB [.int .i64 yl4, .int .i64 (2 + kq), .slice none 0 0, .slice none 0 0, .int .i64 mm] by rw [hW9]; exact ((((BR5.out.put (j := 0) (by simp) _ rfl).put (j := 1) (by simp) _ rfl).put (j := 2) (by simp) _ rfl).put (j := 3) (by simp) _ rfl).put (j := 4) (by simp) _ rfl)
      have hRW : w.heap.size ≤ RB := by rw [H2.out]; omega
      have B9 := (show Below w.heap.size w W9 by rw [hW9]; exact (((((HB.out.trans (BW5.out.mono HB.out.size)).setCell hRW _).setCell hRW _).setCell hRW _).setCell hRW _).setCell hRW _)
      rw [← hW9]
      clear hW9 r0 r1 r2 r3 r4 rz
      obtain ⟨r0, r1, r2, r3, r4, rz⟩ := BR9.out.c5
      refine bodyPost_ret (by simp [results, Try.results44, go_sem, r0, r1, r2, r3, r4]; try rfl) rfl ?_
      exact ⟨⟨yl4, 2 + kq, [], [], mm⟩, none, 0, 0, none, 0, 0, rfl, IsSl.nil, IsSl.nil, B9⟩
end Go.Proofs.Ythhpddiicnjmmaa
