/- The reference's mux: what holds of it between its steps; what its calls leave. Contract of the reference's mux: client. -/
import Derived.Test.YthhpddiicnjmmaaRefM
import Derived.Deep.RegionHeld3
import Derived.Deep.QuietTactic
import Derived.BigQuiet
set_option linter.unusedVariables false
set_option linter.unusedSimpArgs false
set_option maxRecDepth 100000
namespace Go.Proofs.Ythhpddiicnjmmaa
open Go.RowKit

/-- All blocks but the reference's own two. -/
def RS (w : World) (gx gw : Nat) (k : Nat) : Prop := k < w.heap.size ∧ k ≠ gx ∧ k ≠ gw
/-- The reference's mux; its lists lie in T0 or in blocks from B on, and in none of S. -/
def RefOwn (w : World) (B : Nat) (T0 S : Nat → Prop) (gx gw : Nat) (y : Mx) : Prop := ∃ T A c, RefMxAt w T gx gw y A c ∧ (∀ k, T k → T0 k ∨ B ≤ k) ∧ (∀ k, T k → ¬ S k) ∧ ¬ S gx ∧ ¬ S gw

section
variable {w w' w2 wr : World} {B : Nat} {T T0 S Sr : Nat → Prop} {gx gw : Nat} {x y : Mx}
theorem RefIn.grown {z : Win} (h : RefIn w T gw z) {row : Option Nat} (gr : w.grownBy w' row) (hr : ∀ k, row = some k → ¬ T k ∧ k ≠ gw) : RefIn w' T gw z := by
  obtain ⟨A, c, h⟩ := h
  exact ⟨A, c, h.blk.grown gr (fun k hk e => (hr k hk).2 e.symm), h.rows.grownT gr h.hT (fun k hk => (hr k hk).1), fun k hk => Nat.lt_of_lt_of_le (h.hT k hk) gr.size, h.ng⟩
theorem RefMxAt.grown {A : Option Addr} {c : Nat} (h : RefMxAt w T gx gw x A c) {row : Option Nat} (gr : w.grownBy w' row) (hr : ∀ k, row = some k → ¬ T k ∧ k ≠ gx ∧ k ≠ gw) : RefMxAt w' T gx gw x A c :=
  ⟨h.blk.grown gr (fun k hk e => (hr k hk).2.1 e.symm), h.reqs.grownT gr h.hT (fun k hk => (hr k hk).1), h.win.grown gr (fun k hk => ⟨(hr k hk).1, (hr k hk).2.2⟩), fun k hk => Nat.lt_of_lt_of_le (h.hT k hk) gr.size, h.nT, h.ne⟩
theorem RefOwn.grown (h : RefOwn w B T0 S gx gw x) {row : Option Nat} (gr : w.grownBy w' row) (hr : ∀ k, row = some k → S k) : RefOwn w' B T0 S gx gw x := by
  obtain ⟨T, A, c, h, h1, h2, h3, h4⟩ := h
  exact ⟨T, A, c, h.grown gr (fun k hk => ⟨fun ht => h2 k ht (hr k hk), fun e => h3 (e ▸ hr k hk), fun e => h4 (e ▸ hr k hk)⟩), h1, h2, h3, h4⟩
theorem RefOwn.below (h : RefOwn w B T0 S gx gw x) (hb : Below w.heap.size w w') : RefOwn w' B T0 S gx gw x := h.grown (grown_of_below hb none) (fun k hk => by cases hk)
theorem RefOwn.set (h : RefOwn w B T0 S gx gw x) {b : Nat} (hb : S b) (j : Nat) (v : Value) : RefOwn (w.setCell ⟨b, j, none⟩ v) B T0 S gx gw x := h.grown (grown_setB w ⟨b, j, none⟩ v) (fun k hk => by injection hk with hk; exact hk ▸ hb)
theorem RefOwn.sets {S' : Nat → Prop} (h : RefOwn w B T0 S gx gw x) (hS : ∀ k, S' k → S k ∨ w.heap.size ≤ k) : RefOwn w B T0 S' gx gw x := by
  obtain ⟨T, A, c, h, h1, h2, h3, h4⟩ := h
  have n1 : ∀ k, k < w.heap.size → ¬ S k → ¬ S' k := fun k hk hn hs => by rcases hS k hs with h | h; exact hn h; omega
  exact ⟨T, A, c, h, h1, fun k hk => n1 k (h.hT k hk) (h2 k hk), n1 _ h.blk.lt h3, n1 _ h.win.lt h4⟩
theorem RefOwn.newReqs {M : List Req} {A2 : Option Addr} {n2 c2 : Nat} (h : RefOwn w B T0 S gx gw x) (hB : B ≤ w.heap.size) (hS : ∀ k, S k → k < w.heap.size) (hb : Below w.heap.size w w2) (sl : IsSl reqRep w2 (fun k => w.heap.size ≤ k ∧ k < w2.heap.size) A2 n2 M) :
    RefOwn (w2.setCell ⟨gx, 3, none⟩ (.slice A2 n2 c2)) B T0 S gx gw (x.setReqs M) := by
  obtain ⟨T, A, c, h, h1, h2, h3, h4⟩ := h
  have hn := sl.len
  subst hn
  have hgx := h.blk.lt
  have hgw := h.win.lt
  have hs := hb.size
  refine ⟨fun k => T k ∨ (w.heap.size ≤ k ∧ k < w2.heap.size), A2, c2, ⟨(h.blk.after hb).put (j := 3) (by simp) _ rfl, ?_, ?_, ?_, ?_, h.ne⟩, ?_, ?_, h3, h4⟩
  · exact (sl.grownT (grown_setB w2 ⟨gx, 3, none⟩ _) (fun k hk => hk.2) (fun k hk => by injection hk with hk; dsimp only at hk; subst hk; intro hh; omega)).weak (fun k hk => .inr hk)
  · refine RefIn.grown (T := fun k => T k ∨ (w.heap.size ≤ k ∧ k < w2.heap.size)) ((h.win.below hb).more (fun k hk => .inl hk) (fun k hk => hk.elim (fun ht => Nat.lt_of_lt_of_le (h.hT k ht) hs) (fun e => e.2)) (fun hk => hk.elim (fun ht => ?_) (fun e => by omega))) (grown_setB w2 ⟨gx, 3, none⟩ _) (fun k hk => ?_)
    · obtain ⟨_, _, hw⟩ := h.win; exact hw.ng ht
    · injection hk with hk
      dsimp only at hk
      subst hk
      exact ⟨fun hk => hk.elim h.nT (fun e => by omega), h.ne⟩
  · intro k hk
    rw [show (w2.setCell ⟨gx, 3, none⟩ (.slice A2 M.length c2)).heap.size = w2.heap.size by simp]
    exact hk.elim (fun ht => Nat.lt_of_lt_of_le (h.hT k ht) hs) (fun e => e.2)
  · exact fun hk => hk.elim h.nT (fun e => by omega)
  · exact fun k hk => hk.elim (h1 k) (fun e => .inr (Nat.le_trans hB e.1))
  · exact fun k hk hs' => hk.elim (fun ht => h2 k ht hs') (fun e => by have := hS k hs'; omega)
end

/-- Between the steps of client: t, the result and the item lie in the blocks tb, rb, xb; Sr: blocks that are not the mux's. -/
structure RCli (w wr : World) (T0 Sr : Nat → Prop) (gx gw tb rb xb : Nat) (y : Mx) (tc xv : List Value) : Prop where
  new : ∀ k, Sr k → w.heap.size ≤ k
  hS : ∀ k, Sr k → k < wr.heap.size
  stb : Sr tb
  srb : Sr rb
  sxb : Sr xb
  own : RefOwn wr w.heap.size T0 Sr gx gw y
  bt : Blk wr tb tc
  br : Blk wr rb [.int .i64 0, .slice none 0 0, .slice none 0 0]
  bx : Blk wr xb xv
  rest : Rest (RS w gx gw) w wr
  gxl : gx < w.heap.size
  gwl : gw < w.heap.size

section
variable {w wr w2 w7 : World} {T0 Sr : Nat → Prop} {gx gw TB RB XB : Nat} {x y : Mx} {tc xv : List Value}
theorem rcli_start {W : World} {tc : Array Value} {t1 t2 t3 : TypeId} {tl : Int} (h : RefMx w T0 gx gw x) (h1 : TB = w.heap.size) (h2 : RB = w.heap.size + 1) (h3 : XB = w.heap.size + 1 + 1)
    (hW : W = ((w.alloc (.cells tc t1)).alloc (.cells #[.int .i64 0, .slice none 0 0, .slice none 0 0] t2)).alloc (.cells #[.int .i64 tl, .slice none 0 0, .slice none 0 0] t3)) :
    RCli w W T0 (fun k => w.heap.size ≤ k ∧ k < W.heap.size) gx gw TB RB XB (x.accs tl []).1 tc.toList [.int .i64 tl, .slice none 0 0, .slice none 0 0] := by
  have hb : Below w.heap.size w W := by rw [hW]; exact (((Below.refl _ _).alloc (Nat.le_refl _) _).alloc (by simp) _).alloc (by simp; omega) _
  have hs : W.heap.size = w.heap.size + 3 := by rw [hW]; simp
  obtain ⟨A, c, h⟩ := h
  have hgx := h.blk.lt
  have hgw := h.win.lt
  refine ⟨fun k hk => hk.1, fun k hk => hk.2, by omega, by omega, by omega, ⟨T0, A, c, h.below hb, fun k hk => .inl hk, fun k hk hs => by have := h.hT k hk; omega, fun hs => by omega, fun hs => by omega⟩, ?_, ?_, ?_, (Rest.refl (RS w gx gw) w).below (fun k hk => hk.1) hb, hgx, hgw⟩
  · rw [hW, h1]; exact ((Blk.new rfl rfl).alloc _).alloc _
  · rw [hW, h2]; exact (Blk.new rfl (by simp)).alloc _
  · rw [hW, h3]; exact Blk.new rfl (by simp)
theorem RCli.below (h : RCli w wr T0 Sr gx gw TB RB XB y tc xv) (hb : Below wr.heap.size wr w2) : RCli w w2 T0 Sr gx gw TB RB XB y tc xv :=
  ⟨h.new, fun k hk => Nat.lt_of_lt_of_le (h.hS k hk) hb.size, h.stb, h.srb, h.sxb, h.own.below hb, h.bt.after hb, h.br.after hb, h.bx.after hb, h.rest.below (fun k hk => Nat.lt_of_lt_of_le hk.1 h.rest.size) hb, h.gxl, h.gwl⟩
theorem RCli.reqs {M : List Req} {A2 : Option Addr} {n2 c2 : Nat} (h : RCli w wr T0 Sr gx gw TB RB XB y tc xv) (hb : Below wr.heap.size wr w2) (sl : IsSl reqRep w2 (fun k => wr.heap.size ≤ k ∧ k < w2.heap.size) A2 n2 M) :
    RCli w (w2.setCell ⟨gx, 3, none⟩ (.slice A2 n2 c2)) T0 Sr gx gw TB RB XB (y.setReqs M) tc xv := by
  have g := h.gxl
  have n1 := h.new _ h.stb
  have n2 := h.new _ h.srb
  have n3 := h.new _ h.sxb
  exact ⟨h.new, fun k hk => by have := Nat.lt_of_lt_of_le (h.hS k hk) hb.size; simpa using this, h.stb, h.srb, h.sxb, h.own.newReqs h.rest.size h.hS hb sl, (h.bt.after hb).other (by omega) _ _, (h.br.after hb).other (by omega) _ _, (h.bx.after hb).other (by omega) _ _, (h.rest.below (fun k hk => Nat.lt_of_lt_of_le hk.1 h.rest.size) hb).set (fun hk => hk.2.1 rfl) _ _, h.gxl, h.gwl⟩
theorem RCli.stored {v : Value} (h : RCli w w2 T0 Sr gx gw TB RB XB y tc xv) (h1 : TB = w.heap.size) (h2 : RB = w.heap.size + 1) (h3 : XB = w.heap.size + 1 + 1) (hge : ∀ {k}, rowOf v = some k → XB + 1 ≤ k) (hrow : ∀ k, rowOf v = some k → Sr k) (gr : w2.grownBy w7 (rowOf v)) (j : Nat) (hj : j < xv.length) (v7 : Value) {xv' : List Value} (hx : xv' = xv.set j v7) :
    RCli w (w7.setCell ⟨XB, j, none⟩ v7) T0 (fun k => Sr k ∨ (w2.heap.size ≤ k ∧ k < w7.heap.size)) gx gw TB RB XB y tc xv' := by
  have hs7 := gr.size
  have hwr := h.rest.size
  have g := h.gxl
  refine ⟨fun k hk => hk.elim (h.new k) (fun e => by omega), fun k hk => by
    rw [show (w7.setCell ⟨XB, j, none⟩ v7).heap.size = w7.heap.size by simp]
    rcases hk with hk | hk
    · exact Nat.lt_of_lt_of_le (h.hS k hk) hs7
    · exact hk.2, .inl h.stb, .inl h.srb, .inl h.sxb, ?_, ?_, ?_, ?_, ?_, h.gxl, h.gwl⟩
  · exact ((h.own.sets (S' := fun k => Sr k ∨ (w2.heap.size ≤ k ∧ k < w7.heap.size)) (fun k hk => hk.elim .inl (fun h => .inr h.1))).grown gr (fun k hk => .inl (hrow k hk))).set (.inl h.sxb) _ _
  · exact (h.bt.grown gr (fun k hk e => by have := hge hk; omega)).other (by omega) _ _
  · exact (h.br.grown gr (fun k hk e => by have := hge hk; omega)).other (by omega) _ _
  · exact (h.bx.grown gr (fun k hk e => by have := hge hk; omega)).put (j := j) hj _ hx
  · exact (h.rest.grown gr (fun k hk => by have := hk.1; omega) (fun k hk hs => by have := hge hk; have := hs.1; omega)).set (fun hs => by have := hs.1; omega) _ _
end

/-- What a call of the reference's that gives an item leaves. -/
def RItmPost (w : World) (T0 : Nat → Prop) (gx gw : Nat) (it : Itm) (z : Mx) (e : Ending) (w' : World) : Prop :=
  ∃ A n c A2 n2 c2, e = .returned (.agg #[.int .i64 it.lsn, .slice A n c, .slice A2 n2 c2]) ∧ IsSl oprRep w' (fun k => w.heap.size ≤ k ∧ k < w'.heap.size) A n it.ops ∧ IsSl noteRep w' (fun k => w.heap.size ≤ k ∧ k < w'.heap.size) A2 n2 it.notes ∧ RefMx w' (fun k => T0 k ∨ (w.heap.size ≤ k ∧ k < w'.heap.size)) gx gw z ∧ Rest (RS w gx gw) w w'

section
variable {w w' : World} {B : Nat} {T T0 S : Nat → Prop} {gx gw : Nat} {x y : Mx}
theorem RefMxAt.newWin {A : Option Addr} {c : Nat} {z : Win} (h : RefMxAt w T gx gw x A c) (o : RefIn w' (fun k => T k ∨ (w.heap.size ≤ k ∧ k < w'.heap.size)) gw z) (gr : w.grownBy w' (some gw)) : RefMxAt w' (fun k => T k ∨ (w.heap.size ≤ k ∧ k < w'.heap.size)) gx gw (x.setWin z) A c := by
  have hng : ¬ T gw := by obtain ⟨_, _, hw⟩ := h.win; exact hw.ng
  have hgx := h.blk.lt
  exact ⟨h.blk.grown gr (fun k hk e => by injection hk with hk; exact h.ne (e.trans hk.symm)), (h.reqs.gby gr h.hT hng).weak (fun k hk => .inl hk), o, fun k hk => hk.elim (fun ht => Nat.lt_of_lt_of_le (h.hT k ht) gr.size) (fun e => e.2), fun hk => hk.elim h.nT (fun e => by omega), h.ne⟩
theorem RefMxAt.more {A : Option Addr} {c : Nat} {T' : Nat → Prop} (h : RefMxAt w T gx gw x A c) (hT : ∀ k, T k → T' k) (hs : ∀ k, T' k → k < w.heap.size) (n1 : ¬ T' gx) (n2 : ¬ T' gw) : RefMxAt w T' gx gw x A c :=
  ⟨h.blk, h.reqs.weak hT, h.win.more hT hs n2, hs, n1, h.ne⟩
/-- What the mux leads to at the end: what it led to, and what is new. -/
theorem RefOwn.done (h : RefOwn w B T0 S gx gw y) (hT : ∀ k, T0 k → k < w.heap.size) (n1 : ¬ T0 gx) (n2 : ¬ T0 gw) (g1 : gx < B) (g2 : gw < B) : RefMx w (fun k => T0 k ∨ (B ≤ k ∧ k < w.heap.size)) gx gw y := by
  obtain ⟨T, A, c, h, h1, h2, h3, h4⟩ := h
  refine ⟨A, c, h.more (fun k hk => ?_) (fun k hk => hk.elim (hT k) (·.2)) (fun hk => hk.elim n1 (fun e => by omega)) (fun hk => hk.elim n2 (fun e => by omega))⟩
  exact (h1 k hk).elim .inl (fun e => .inr ⟨e, h.hT k hk⟩)
theorem RefOwn.newWin {z : Win} {A : Option Addr} {c : Nat} (h : RefMxAt w T gx gw x A c) (h1 : ∀ k, T k → T0 k ∨ B ≤ k) (h2 : ∀ k, T k → ¬ S k) (h3 : ¬ S gx) (h4 : ¬ S gw) (hB : B ≤ w.heap.size) (hS : ∀ k, S k → k < w.heap.size) (o : RefIn w' (fun k => T k ∨ (w.heap.size ≤ k ∧ k < w'.heap.size)) gw z) (gr : w.grownBy w' (some gw)) : RefOwn w' B T0 S gx gw (x.setWin z) :=
  ⟨_, A, c, h.newWin o gr, fun k hk => hk.elim (h1 k) (fun e => .inr (Nat.le_trans hB e.1)), fun k hk hs => hk.elim (fun ht => h2 k ht hs) (fun e => by have := hS k hs; omega), h3, h4⟩
end
end Go.Proofs.Ythhpddiicnjmmaa

set_option linter.unusedVariables false
set_option linter.unusedSimpArgs false
set_option maxRecDepth 100000
namespace Go.Proofs.Ythhpddiicnjmmaa
open Go.RowKit

set_option maxHeartbeats 16000000 in
theorem refClient_any (T0 : Nat → Prop) (gx gw : Nat) (x : Mx) (w : World) (h : RefMx w T0 gx gw x) (hf : x.Fine) (t : Txn) (U : Nat → Prop) (hU : ∀ k, U k → RS w gx gw k) (A : Option Addr) (n c : Nat) (A2 : Option Addr) (n2 c2 : Nat) (ht : IsSl chgRep w U A n t.changes) (hs : IsSl strRep w U A2 n2 t.signals) (hn : n ≤ 1000) (hn2 : n2 ≤ 1000) (hl : I64 t.lsn) :
    Calls Try.prog 106 #[.pointer (some ⟨gx, 0, none⟩), txnV t A n c A2 n2 c2] w (RItmPost w T0 gx gw (x.cliI t) (x.cliM t)) := by
  obtain ⟨i0, hi, hz0, hz1, hz2⟩ := info_parts info_note
  obtain ⟨j0, ji, jz0, jz1, jz2⟩ := info_parts info_opr
  unfold txnV
  have HO := Lib.hid h
  have HU := Lib.hid hU
  have HF := Lib.hid hf
  have HC := Lib.hid ht
  have HG := Lib.hid hs
  have HLC := Lib.hid ht.len
  have HLS := Lib.hid hs.len
  obtain ⟨tl, tk, tch, tsg, tm⟩ := t
  dsimp only at HC HG HLC HLS hl ⊢
  clear h hU hf ht hs
  obtain ⟨TB, hTB⟩ : ∃ TB, TB = w.heap.size := ⟨_, rfl⟩
  obtain ⟨RB, hRB⟩ : ∃ RB, RB = w.heap.size + 1 := ⟨_, rfl⟩
  obtain ⟨XB, hXB⟩ : ∃ XB, XB = w.heap.size + 1 + 1 := ⟨_, rfl⟩
  have H1 := Lib.hid hTB
  have H2 := Lib.hid hRB
  have H3 := Lib.hid hXB
  obtain ⟨W, hW⟩ : ∃ W, W = ((w.alloc (.cells #[.int .i64 tl, .int .i64 tk, .slice A n c, .slice A2 n2 c2, .int .i64 tm] 68)).alloc (.cells #[.int .i64 0, .slice none 0 0, .slice none 0 0] 62)).alloc (.cells #[.int .i64 tl, .slice none 0 0, .slice none 0 0] 62) := ⟨_, rfl⟩
  have HW := Lib.hid hW
  have I0 := Lib.hid (rcli_start HO.out hTB hRB hXB hW)
  clear hW hTB hRB hXB
  have ntx : (TB = XB) = False := by simp; have := H1.out; have := H3.out; omega
  have nxt : (XB = TB) = False := by simp; have := H1.out; have := H3.out; omega
  have nrx : (RB = XB) = False := by simp; have := H2.out; have := H3.out; omega
  have nxr : (XB = RB) = False := by simp; have := H2.out; have := H3.out; omega
  go_enter Try.func106, Try.ntmps106
  go_wp2_with fail
  rw [← HW.out, ← H3.out, ← H2.out, ← H1.out]
  go_loopw [6] (fun i wr => ∃ (k : Nat) (Sr : Nat → Prop) (v : Value), i = .int .i64 k ∧ k ≤ n2 ∧ RCli w wr T0 Sr gx gw TB RB XB (x.accs tl (tsg.take k)).1 [.int .i64 tl, .int .i64 tk, .slice A n c, .slice A2 n2 c2, .int .i64 tm] [.int .i64 tl, .slice none 0 0, v] ∧ Own noteRep wr (XB + 1) (fun _ => False) 91 v (x.accs tl (tsg.take k)).2 ∧ (∀ r, rowOf v = some r → Sr r)) (fun i _ => n2 - (intOf i).toNat)
  case atStart => exact ⟨0, _, _, rfl, Nat.zero_le _, I0.out, Own.nil _ _ _ (fun _ h => h.elim) _ _, fun r hr => by simp [rowOf] at hr⟩
  case round =>
    obtain ⟨wo, rfl⟩ : ∃ q : World, q = wr := ⟨_, rfl⟩
    obtain ⟨k, Sr, v, rfl, hk, hcli, hown, hrow⟩ := hrel
    obtain ⟨y, hy⟩ : ∃ y, y = (x.accs tl (tsg.take k)).1 := ⟨_, rfl⟩
    obtain ⟨N, hN⟩ : ∃ N, N = (x.accs tl (tsg.take k)).2 := ⟨_, rfl⟩
    rw [← hy] at hcli
    rw [← hN] at hown
    have CL := Lib.hid hcli
    have OW := Lib.hid hown
    have HY := Lib.hid hy
    have HN := Lib.hid hN
    have HRW := Lib.hid hrow
    have HYF := Lib.hid (show y.Fine by rw [hy]; exact HF.out.accs _ _)
    have hNl : N.length ≤ 1000 := by rw [hN]; exact Nat.le_trans (accs_len x tl (tsg.take k)) (by rw [List.length_take]; omega)
    have hyl := may_short HYF.out.may
    obtain ⟨A5, c5, hv5, _, _, _⟩ := hown.isSlR
    subst hv5
    obtain ⟨m5, hm5⟩ : ∃ m5, m5 = N.length := ⟨_, rfl⟩
    rw [← hm5] at OW HRW CL hNl
    have HM5 := Lib.hid hm5
    obtain ⟨t0, t1, t2, t3, t4, tz⟩ := CL.out.bt.c5
    clear hy hN hown hcli hrow hm5
    by_cases hlt : k < n2
    · obtain ⟨b0, off, s, rfl, hb0, hsx, hss, hc0⟩ := HG.out.strT hlt (fun p hp => CL.out.rest.cell (HU.out _ hp))
      have hd : decide ((k : Int) < (n2 : Int)) = true := decide_eq_true (by omega)
      have hki : (k : Int) < (n2 : Int) := by omega
      have hk0 : (0 : Int) ≤ (k : Int) := by omega
      have HSX := Lib.hid (show x.accs tl (tsg.take (k + 1)) = (y.acc s tl, N ++ y.accN s tl) by rw [take_snoc hsx, Mx.accs_snoc, ← HY.out, ← HN.out])
      obtain ⟨pb1, pb2, pb3, pb4⟩ := parse_bounds s.data.toList
      obtain ⟨⟨ga, gb, gc⟩, hp⟩ : ∃ p, p = parseS s.data.toList := ⟨_, rfl⟩
      rw [← hp] at pb1 pb2 pb3 pb4
      dsimp only at pb1 pb2 pb3 pb4
      have HPA := Lib.hid (show sigV (parseS s.data.toList) = .tuple #[.agg #[.int .i64 ga, .int .i64 gb], .bool gc] by rw [← hp]; rfl)
      have HACC := Lib.hid (show y.accO s tl = if gc = true ∧ ga < y.tables then acceptO y.reqs ga gb tl else none by unfold Mx.accO; rw [← hp])
      have HN1 := Lib.hid (show ∀ M, y.accO s tl = some M → y.accN s tl = [⟨1, M.length, ga, gb, tl, 0, false⟩] ∧ y.acc s tl = y.setReqs M by intro M hM; unfold Mx.accN Mx.acc; rw [hM, ← hp]; exact ⟨rfl, rfl⟩)
      have HN0 := Lib.hid (show y.accO s tl = none → y.accN s tl = [] ∧ y.acc s tl = y by intro hM; unfold Mx.accN Mx.acc; rw [hM]; exact ⟨rfl, rfl⟩)
      clear hp hsx
      cases gc with
      | false =>
        have HZ := Lib.hid (HN0.out (by rw [HACC.out, if_neg (by simp)]))
        have HS2 := Lib.hid (show x.accs tl (tsg.take (k + 1)) = (y, N) by rw [HSX.out, HZ.out.1, HZ.out.2, List.append_nil])
        go_wp2_with (first
          | (go_at_call 31; (with_reducible refine (refparse_any s wo hss).mono ?_); rintro e w7 ⟨rfl, bel7⟩; rw [HPA.out]; obtain ⟨w8, hw8⟩ : ∃ w8, w8 = w7.alloc (.cells #[.int .i64 ga, .int .i64 gb] 74) := ⟨_, rfl⟩; have B8 := Lib.hid (show Below wo.heap.size wo w8 by rw [hw8]; exact bel7.alloc bel7.size _); have BG8 := Lib.hid (show Blk w8 w7.heap.size [.int .i64 ga, .int .i64 gb] by rw [hw8]; exact Blk.new rfl rfl); have HW8 := Lib.hid hw8; have hs7 := bel7.size; clear bel7 hw8)
          | fail)
        rw [← HW8.out]
        clear t0 t1 t2 t3 t4 tz
        go_quiet (fail)
        go_wp2
        go_roundw
        case rel => exact ⟨k + 1, Sr, .slice A5 m5 c5, by go_num, by omega, by rw [HS2.out]; exact CL.out.below (below_drewN B8.out _), by rw [HS2.out]; exact OW.out.below (below_drewN B8.out _), HRW.out⟩
        case measure => simp [intOf]; omega
      | true =>
        by_cases htab : ga < y.tables
        case neg =>
          have HZ := Lib.hid (HN0.out (by rw [HACC.out, if_neg (by simp; omega)]))
          have HS2 := Lib.hid (show x.accs tl (tsg.take (k + 1)) = (y, N) by rw [HSX.out, HZ.out.1, HZ.out.2, List.append_nil])
          have hdt : decide (y.tables ≤ ga) = true := decide_eq_true (by omega)
          go_wp2_with (first
            | (go_at_call 31; (with_reducible refine (refparse_any s wo hss).mono ?_); rintro e w7 ⟨rfl, bel7⟩; rw [HPA.out]; obtain ⟨w8, hw8⟩ : ∃ w8, w8 = w7.alloc (.cells #[.int .i64 ga, .int .i64 gb] 74) := ⟨_, rfl⟩; have B8 := Lib.hid (show Below wo.heap.size wo w8 by rw [hw8]; exact bel7.alloc bel7.size _); have BG8 := Lib.hid (show Blk w8 w7.heap.size [.int .i64 ga, .int .i64 gb] by rw [hw8]; exact Blk.new rfl rfl); have HW8 := Lib.hid hw8; have hs7 := bel7.size; clear bel7 hw8)
            | fail)
          rw [← HW8.out]
          have CL8 := Lib.hid (CL.out.below B8.out)
          obtain ⟨T8, A8, c8, hr8, _, _, _, _⟩ := CL8.out.own
          obtain ⟨g0, g1, g2, g3, g4, gz⟩ := hr8.blk.c5
          obtain ⟨s0, s1, sz⟩ := BG8.out.c2
          clear t0 t1 t2 t3 t4 tz
          go_quiet (fail)
          go_wp2
          go_roundw
          case rel => exact ⟨k + 1, Sr, .slice A5 m5 c5, by go_num, by omega, by rw [HS2.out]; exact CL.out.below (below_drewN B8.out _), by rw [HS2.out]; exact OW.out.below (below_drewN B8.out _), HRW.out⟩
          case measure => simp [intOf]; omega
        case pos =>
          have hdt : decide (y.tables ≤ ga) = false := decide_eq_false (by omega)
          obtain ⟨o, ho⟩ : ∃ o, o = acceptO y.reqs ga gb tl := ⟨_, rfl⟩
          have HA2 := Lib.hid (show y.accO s tl = o by rw [HACC.out, if_pos ⟨rfl, htab⟩, ho])
          have HOO := Lib.hid ho
          clear ho
          go_wp2_with (first
            | (go_at_call 31; (with_reducible refine (refparse_any s wo hss).mono ?_); rintro e w7 ⟨rfl, bel7⟩; rw [HPA.out]; obtain ⟨w8, hw8⟩ : ∃ w8, w8 = w7.alloc (.cells #[.int .i64 ga, .int .i64 gb] 74) := ⟨_, rfl⟩; have B8 := Lib.hid (show Below wo.heap.size wo w8 by rw [hw8]; exact bel7.alloc bel7.size _); have BG8 := Lib.hid (show Blk w8 w7.heap.size [.int .i64 ga, .int .i64 gb] by rw [hw8]; exact Blk.new rfl rfl); have HW8 := Lib.hid hw8; have hs7 := bel7.size; clear bel7 hw8)
            | fail)
          rw [← HW8.out]
          have CL8 := Lib.hid (CL.out.below B8.out)
          obtain ⟨T8, A8, c8, hr8, _, _, _, _⟩ := CL8.out.own
          obtain ⟨g0, g1, g2, g3, g4, gz⟩ := hr8.blk.c5
          obtain ⟨s0, s1, sz⟩ := BG8.out.c2
          obtain ⟨t0, t1, t2, t3, t4, tz⟩ := CL8.out.bt.c5
          have HQ := Lib.hid (hr8.reqs.weak hr8.hT)
          obtain ⟨q8, hq8⟩ : ∃ q8, q8 = y.reqs.length := ⟨_, rfl⟩
          have hq9 : q8 ≤ 64 := by omega
          rw [← hq8] at g3 HQ
          have hgl : gx < w8.heap.size := hr8.blk.lt
          have htl : TB < w8.heap.size := CL8.out.bt.lt
          have hsl : w7.heap.size < w8.heap.size := BG8.out.lt
          clear hr8 hq8
          go_quiet (fail)
          have HQD := Lib.hid (show ∀ m, IsSl reqRep (w8.drewN m) (· < (w8.drewN m).heap.size) A8 q8 y.reqs from fun m => HQ.out.keep (fun _ _ => rfl))
          go_wp2_with fail
          go_region_held3 (fun w' => w'.cell? ⟨gx, 3, none⟩ = some (.slice A8 q8 c8) ∧ w'.cell? ⟨w7.heap.size, 0, none⟩ = some (.int .i64 ga) ∧ w'.cell? ⟨w7.heap.size, 1, none⟩ = some (.int .i64 gb) ∧ w'.cell? ⟨TB, 0, none⟩ = some (.int .i64 tl)) (first | exact ⟨g3, s0, s1, t0⟩ | exact ⟨(B9.out.cell (p := ⟨gx, 3, none⟩) hgl).trans g3, (B9.out.cell (p := ⟨w7.heap.size, 0, none⟩) hsl).trans s0, (B9.out.cell (p := ⟨w7.heap.size, 1, none⟩) hsl).trans s1, (B9.out.cell (p := ⟨TB, 0, none⟩) htl).trans t0⟩ | fail)
            (first
            | (go_at_call 38; (with_reducible refine (refaccept_any A8 q8 c8 y.reqs ga gb tl _ (HQD.out _) (by omega) (by unfold I64; omega) (by unfold I64; omega) hl).mono ?_); rintro e w9 ⟨v9, rfl, own9, bel9⟩; rw [← HOO.out] at own9 ⊢; have B9 := Lib.hid bel9; obtain ⟨A9, c9, rfl, l9, m9, s9⟩ := own9.isSlR; have S9 := Lib.hid s9; clear own9 bel9 s9)
            | fail)
          have B9' := Lib.hid (show Below w8.heap.size w8 w9 from ⟨B9.out.os, B9.out.tape, B9.out.output, B9.out.size, B9.out.block⟩)
          have BW9 := Lib.hid (bel_n B8.out B9'.out)
          have CL9 := Lib.hid (CL8.out.below B9'.out)
          have S9' := Lib.hid (show IsSl reqRep w9 (fun b => w8.heap.size ≤ b ∧ b < w9.heap.size) A9 (o.getD []).length (o.getD []) from S9.out)
          clear g0 g1 g2 g3 g4 gz s0 s1 sz t0 t1 t2 t3 t4 tz
          cases o with
          | none =>
            have HZ := Lib.hid (HN0.out HA2.out)
            have HS2 := Lib.hid (show x.accs tl (tsg.take (k + 1)) = (y, N) by rw [HSX.out, HZ.out.1, HZ.out.2, List.append_nil])
            go_wp2
            go_roundw
            case rel => exact ⟨k + 1, Sr, .slice A5 m5 c5, by go_num, by omega, by rw [HS2.out]; exact CL9.out, by rw [HS2.out]; exact OW.out.below BW9.out, HRW.out⟩
            case measure => simp [intOf]; omega
          | some M =>
            have HZ := Lib.hid (HN1.out M HA2.out)
            obtain ⟨M9, hM9⟩ : ∃ M9, M9 = M.length := ⟨_, rfl⟩
            rw [show (some M).getD [] = M from rfl, ← hM9] at S9'
            rw [show (some M).getD [] = M from rfl, ← hM9]
            have HS2 := Lib.hid (show x.accs tl (tsg.take (k + 1)) = (y.setReqs M, N ++ [⟨1, (M9 : Int), ga, gb, tl, 0, false⟩]) by rw [HSX.out, HZ.out.1, HZ.out.2, hM9])
            have hM64 : M9 ≤ 64 := by rw [hM9]; exact may_len (acceptO_some HOO.out.symm).2
            have HNW := Lib.hid (show (⟨1, (M9 : Int), ga, gb, tl, 0, false⟩ : Note).wf from ⟨(show I64 (1 : Int) by unfold I64; omega), (show I64 (M9 : Int) by unfold I64; omega), (show I64 ga by unfold I64; omega), (show I64 gb by unfold I64; omega), hl, (show I64 (0 : Int) by unfold I64; omega)⟩)
            have CR := Lib.hid (CL8.out.reqs (c2 := c9) B9'.out S9'.out)
            obtain ⟨T9, _, _, hr9, _, _, _, _⟩ := CL9.out.own
            obtain ⟨_, _, _, g3, _, gz⟩ := hr9.blk.c5
            clear hM9 hr9
            go_upto_region 10 with fail
            obtain ⟨w10, hw10⟩ : ∃ w10, w10 = w9.setCell ⟨gx, 3, none⟩ (.slice A9 M9 c9) := ⟨_, rfl⟩
            have hsb : w7.heap.size ≠ gx := by have := CL.out.gxl; have := CL.out.rest.size; omega
            have BG10 := Lib.hid (show Blk w10 w7.heap.size [.int .i64 ga, .int .i64 gb] by rw [hw10]; exact (BG8.out.after B9'.out).other hsb _ _)
            have OW10 := Lib.hid (show Own noteRep w10 (XB + 1) (fun _ => False) 91 (.slice A5 m5 c5) N by rw [hw10]; exact (OW.out.below BW9.out).kept (grown_setB w9 ⟨gx, 3, none⟩ (.slice A9 M9 c9)) (fun q hq => ⟨fun e => (by have := (OW.out.below BW9.out).row_ge e; have := CL.out.gxl; have := CL.out.new _ CL.out.sxb; injection hq with hq; dsimp only at hq; omega), fun h => h⟩))
            rw [← hw10] at CR ⊢
            have hx10 := CR.out.bx.lt
            obtain ⟨t0, t1, t2, t3, t4, tz⟩ := CR.out.bt.c5
            obtain ⟨x0, x1, x2, xz⟩ := CR.out.bx.c3
            obtain ⟨s0, s1, sz⟩ := BG10.out.c2
            clear hw10 g3 gz
            go_wp2_with (first
              | (at_builtin; refine wpList_append_Own _ rfl _ _ 60 rfl (XB + 1) 91 i0 _ 56 Try.underlying60 hi hz0 hz1 hz2 rfl (R := noteRep) (S := fun _ => False) (l := N) (l' := [⟨1, (M9 : Int), ga, gb, tl, 0, false⟩]) (.slice A5 m5 c5) rfl (OW10.out.alloc _) _ 1 1 rfl (Src.new (cs := (⟨1, (M9 : Int), ga, gb, tl, 0, false⟩ : Note).cells) ⟨rfl, HNW.out⟩) (by rw [← HM5.out]; simp only [maxLen]; omega) (by rw [← HM5.out]; omega) (by omega) (by simp; omega) ?_; intro v11 w11 own11 gr11 at11; obtain ⟨A11, c11, rfl, _, _, _⟩ := own11.isSlR; obtain ⟨q11, hq11⟩ : ∃ q11, q11 = (N ++ [(⟨1, (M9 : Int), ga, gb, tl, 0, false⟩ : Note)]).length := ⟨_, rfl⟩; rw [← hq11] at own11 at11 ⊢; have CB := Lib.hid (CR.out.below ((Below.refl w10.heap.size w10).alloc (Nat.le_refl _) (.cells #[.int .i64 1, .int .i64 (M9 : Int), .int .i64 ga, .int .i64 gb, .int .i64 tl, .int .i64 0, .bool false] 91))); have HX11 := Lib.hid (CB.out.bx.grown gr11 (fun q hq e => by have := OW10.out.row_ge hq; omega)); obtain ⟨y0, y1, y2, yz⟩ := HX11.out.c3; have O11 := Lib.hid own11; have G11 := Lib.hid gr11; have AT11 := Lib.hid at11; clear own11 gr11 at11 hq11)
              | fail)
            have C11 := Lib.hid (CB.out.stored H1.out H2.out H3.out (fun e => OW10.out.row_ge e) (fun r h => HRW.out r h) G11.out 2 (by simp) (.slice A11 q11 c11) rfl)
            go_roundw
            case rel => exact ⟨k + 1, _, .slice A11 q11 c11, by go_num, by omega, by rw [HS2.out]; exact C11.out, by rw [HS2.out]; exact O11.out.kept (grown_setB w11 ⟨XB, 2, none⟩ (.slice A11 q11 c11)) (fun q hq => ⟨fun e => (by have := O11.out.row_ge e; injection hq with hq; dsimp only at hq; omega), fun h => h⟩), fun r hr => row_new AT11.out G11.out (fun r h => HRW.out r h) O11.out hr⟩
            case measure => simp [intOf]; omega
    · obtain rfl : n2 = k := by omega
      have hd : decide ((n2 : Int) < (n2 : Int)) = false := by simp
      have HYE := Lib.hid (show x.accs tl tsg = (y, N) by rw [HY.out, HN.out, List.take_of_length_le (by rw [← HLS.out]; exact Nat.le_refl _)])
      clear hlt
      go_wp2_with fail
      go_loopw [11] (fun i wr => ∃ (k : Nat) (Sr : Nat → Prop) (v : Value), i = .int .i64 k ∧ k ≤ n ∧ RCli w wr T0 Sr gx gw TB RB XB y [.int .i64 tl, .int .i64 tk, .slice A n c, .slice A2 n2 c2, .int .i64 tm] [.int .i64 tl, v, .slice A5 m5 c5] ∧ Own oprRep wr (XB + 1) (fun _ => False) 71 v (y.ops tl (tch.take k)) ∧ Own noteRep wr (XB + 1) (fun _ => False) 91 (.slice A5 m5 c5) N ∧ (∀ r, rowOf v = some r → Sr r ∧ rowOf (.slice A5 m5 c5) ≠ some r) ∧ (∀ r, rowOf (.slice A5 m5 c5) = some r → Sr r)) (fun i _ => n - (intOf i).toNat)
      case atStart => exact ⟨0, Sr, _, rfl, Nat.zero_le _, CL.out, Own.nil _ _ _ (fun _ h => h.elim) _ _, OW.out, (fun r hr => by simp [rowOf] at hr), HRW.out⟩
      case round =>
        clear t0 t1 t2 t3 t4 tz
        obtain ⟨wi, rfl⟩ : ∃ q : World, q = wr := ⟨_, rfl⟩
        obtain ⟨q, Su, v, rfl, hq, hcli, hown, hnot, hrow, hrow2⟩ := hrel
        obtain ⟨O, hO⟩ : ∃ O, O = y.ops tl (tch.take q) := ⟨_, rfl⟩
        rw [← hO] at hown
        have CU := Lib.hid hcli
        have OU := Lib.hid hown
        have NU := Lib.hid hnot
        have HOO := Lib.hid hO
        have HRU := Lib.hid hrow
        have HRV := Lib.hid hrow2
        have hOl : O.length ≤ 1000 := by rw [hO]; exact Nat.le_trans (ops_len y tl _) (by rw [List.length_take]; omega)
        obtain ⟨A8, c8, hv8, _, _, _⟩ := hown.isSlR
        subst hv8
        obtain ⟨m8, hm8⟩ : ∃ m8, m8 = O.length := ⟨_, rfl⟩
        rw [← hm8] at OU HRU CU hOl
        have HM8 := Lib.hid hm8
        obtain ⟨t0, t1, t2, t3, t4, tz⟩ := CU.out.bt.c5
        clear hO hown hcli hrow hrow2 hnot hm8
        by_cases hlt : q < n
        · obtain ⟨b0, off, ch, rfl, hb0, hcx, hcw, k0, k1, k2, k3⟩ := HC.out.chgT hlt (fun p hp => CU.out.rest.cell (HU.out _ hp))
          have hd : decide ((q : Int) < (n : Int)) = true := decide_eq_true (by omega)
          have hqi : (q : Int) < (n : Int) := by omega
          have hq0 : (0 : Int) ≤ (q : Int) := by omega
          have HCX := Lib.hid (show y.ops tl (tch.take (q + 1)) = O ++ (if y.capt ch.table = true then [chgO tl ch] else []) by rw [take_snoc hcx, Mx.ops_snoc, ← HOO.out])
          have HCW := Lib.hid (show (chgO tl ch).wf from ⟨hl, hcw.1, hcw.2.1, hcw.2.2⟩)
          have HI := Lib.hid hcw.1
          obtain ⟨ct, ck, cg, cv⟩ := ch
          dsimp only at k0 k1 k2 k3
          obtain ⟨wa, hwa⟩ : ∃ wa, wa = wi.alloc (.cells #[.int .i64 ct, .int .i64 ck, .bool cg, .string cv] 162) := ⟨_, rfl⟩
          have HWA := Lib.hid hwa
          have BA := Lib.hid (show Below wi.heap.size wi wa by rw [hwa]; exact (Below.refl _ _).alloc (Nat.le_refl _) _)
          have KA := Lib.hid (show Blk wa wi.heap.size [.int .i64 ct, .int .i64 ck, .bool cg, .string cv] by rw [hwa]; exact Blk.new rfl rfl)
          have CA := Lib.hid (CU.out.below BA.out)
          obtain ⟨kb, hkb⟩ : ∃ kb, kb = wi.heap.size := ⟨_, rfl⟩
          have HKB := Lib.hid hkb
          rw [← hkb] at KA
          obtain ⟨Ta, ha1, ha2, ha3, ha4, ha5, ha6, ha7⟩ := CA.out.own
          have HRA := Lib.hid (show RefMx wa Ta gx gw y from ⟨ha1, ha2, ha3⟩)
          clear hcx hcw hwa hkb ha3 ha4 ha5 ha6 ha7
          cases hcp : y.capt ct with
          | false =>
            have HCP := Lib.hid hcp
            rw [if_neg (by rw [hcp]; simp), List.append_nil] at HCX
            clear hcp
            go_wp2_with (first
              | (go_at_call 97; rw [← HWA.out]; (with_reducible refine (refCapt_any Ta gx gw y wa HRA.out HYF.out ct HI.out).mono ?_); rintro e w2 ⟨rfl, hw2⟩; subst hw2; rw [HCP.out])
              | fail)
            go_roundw
            case rel => exact ⟨q + 1, Su, .slice A8 m8 c8, by go_num, by omega, CA.out, by rw [HCX.out]; exact OU.out.below BA.out, NU.out.below BA.out, HRU.out, HRV.out⟩
            case measure => simp [intOf]; omega
          | true =>
            have HCP := Lib.hid hcp
            rw [if_pos hcp] at HCX
            clear hcp
            obtain ⟨a0, a1, a2, a3, az⟩ := KA.out.c4
            obtain ⟨v0, v1, v2, v3, v4, vz⟩ := CA.out.bt.c5
            obtain ⟨x0, x1, x2, xz⟩ := CA.out.bx.c3
            have O2 := Lib.hid (OU.out.below BA.out)
            have hX2 := CA.out.bx.lt
            go_wp2_with (first
              | (go_at_call 97; rw [← HWA.out, ← HKB.out]; (with_reducible refine (refCapt_any Ta gx gw y wa HRA.out HYF.out ct HI.out).mono ?_); rintro e w2 ⟨rfl, hw2⟩; subst hw2; rw [HCP.out])
              | (at_builtin; refine wpList_append_Own _ rfl _ _ 59 rfl (XB + 1) 71 j0 _ 48 Try.underlying59 ji jz0 jz1 jz2 rfl (R := oprRep) (S := fun _ => False) (l := O) (l' := [chgO tl ⟨ct, ck, cg, cv⟩]) (.slice A8 m8 c8) rfl (O2.out.alloc _) _ 1 1 rfl (Src.new (cs := (chgO tl ⟨ct, ck, cg, cv⟩).cells) ⟨rfl, HCW.out⟩) (by rw [← HM8.out]; simp only [maxLen]; omega) (by rw [← HM8.out]; omega) (by omega) (by simp; omega) ?_; intro v9 w9 own9 gr9 at9; obtain ⟨A9, c9, rfl, _, _, _⟩ := own9.isSlR; obtain ⟨q9, hq9⟩ : ∃ q9, q9 = (O ++ [chgO tl ⟨ct, ck, cg, cv⟩]).length := ⟨_, rfl⟩; rw [← hq9] at own9 at9 ⊢; have C3 := Lib.hid (CA.out.below ((Below.refl wa.heap.size wa).alloc (Nat.le_refl _) (.cells #[.int .i64 tl, .int .i64 ct, .int .i64 ck, .bool cg, .string cv] 71))); have HX9 := Lib.hid (C3.out.bx.grown gr9 (fun k hk e => by have := O2.out.row_ge hk; omega)); obtain ⟨y0, y1, y2, yz⟩ := HX9.out.c3; have O9 := Lib.hid own9; have G9 := Lib.hid gr9; have AT9 := Lib.hid at9; clear own9 gr9 at9 hq9)
              | fail)
            have C9 := Lib.hid (C3.out.stored H1.out H2.out H3.out (fun e => O2.out.row_ge e) (fun r h => (HRU.out r h).1) G9.out 1 (by simp) (.slice A9 q9 c9) rfl)
            go_roundw
            case rel => exact ⟨q + 1, _, .slice A9 q9 c9, by go_num, by omega, C9.out, by rw [HCX.out]; exact O9.out.kept (grown_setB w9 ⟨XB, 1, none⟩ (.slice A9 q9 c9)) (fun k hk => ⟨fun e => (by have := O9.out.row_ge e; injection hk with hk; dsimp only at hk; omega), fun h => h⟩), ((((NU.out.below BA.out).alloc _).kept G9.out (fun k hk => ⟨fun e => (HRU.out k hk).2 e, fun h => h⟩))).kept (grown_setB w9 ⟨XB, 1, none⟩ (.slice A9 q9 c9)) (fun k hk => ⟨fun e => (by have := NU.out.row_ge e; injection hk with hk; dsimp only at hk; omega), fun h => h⟩), (fun r hr => ⟨row_new AT9.out G9.out (fun r h => (HRU.out r h).1) O9.out hr, fun e => by
                rcases AT9.out with h | h | h
                · injection h with h4 h5 h6; subst h4 h5 h6; exact (HRU.out r hr).2 e
                · exact (HRU.out r (h ▸ hr)).2 e
                · rw [hr] at h; injection h with h; have := (NU.out.below BA.out).row_lt e; simp at h; omega⟩), fun r hr => .inl (HRV.out r hr)⟩
            case measure => simp [intOf]; omega
        · obtain rfl : n = q := by omega
          have hd : decide ((n : Int) < (n : Int)) = false := by simp
          have HOE := Lib.hid (show y.ops tl tch = O by rw [HOO.out, List.take_of_length_le (by rw [← HLC.out]; exact Nat.le_refl _)])
          obtain ⟨T, Am, cm, hm, i1, i2, i3, i4⟩ := CU.out.own
          obtain ⟨g0, g1, g2, g3, g4, gz⟩ := hm.blk.c5
          have HM := Lib.hid hm
          have I1 := Lib.hid i1
          have I2 := Lib.hid i2
          have I3 := Lib.hid i3
          have I4 := Lib.hid i4
          have ngt : TB ≠ gw := by have := CU.out.gwl; have := H1.out; omega
          have HWN := Lib.hid (show RefIn wi.drew T gw y.win from hm.win.below ⟨rfl, rfl, rfl, Nat.le_refl _, fun _ _ => rfl⟩)
          have HUD := Lib.hid (show ∀ k, U k → k < wi.drew.heap.size from fun k hk => by have := (HU.out k hk).1; have := CU.out.rest.size; exact Nat.lt_of_lt_of_le (HU.out k hk).1 CU.out.rest.size)
          have HCD := Lib.hid (show IsSl chgRep wi.drew U A n tch from (HC.out.rest CU.out.rest (fun k hk => HU.out k hk)).keep (fun _ _ => rfl))
          have hrl : y.win.rows.length ≤ 100000 := by have := HYF.out.win.rows; have := HYF.out.win.n2; omega
          have hgx : gx < wi.drew.heap.size := hm.blk.lt
          have htb : TB < wi.drew.heap.size := CU.out.bt.lt
          have hne : gx ≠ gw := hm.ne
          clear hlt hm i1 i2 i3 i4
          go_wp2_with fail
          go_region_held3 (fun w' => w'.cell? ⟨gx, 4, none⟩ = some (.pointer (some ⟨gw, 0, none⟩)) ∧ w'.cell? ⟨TB, 2, none⟩ = some (.slice A n c)) (first | exact ⟨g4, t2⟩ | exact ⟨(cell_grown R8.out (p := ⟨gx, 4, none⟩) hgx (by simpa using hne.symm)).trans g4, (cell_grown R8.out (p := ⟨TB, 2, none⟩) htb (by simpa using ngt.symm)).trans t2⟩ | fail)
            (first
              | (go_at_call 143; (with_reducible refine (refsee_any gw T y.win A n c tch wi.drew HWN.out U HUD.out HCD.out hrl (by omega)).mono ?_); rintro e w8 ⟨rfl, o8, r8⟩; have O8 := Lib.hid o8; have R8 := Lib.hid r8; clear o8 r8)
              | fail)
          have R8' := Lib.hid (show wi.grownBy w8 (some gw) from ⟨R8.out.os, R8.out.tape, R8.out.output, R8.out.size, R8.out.block⟩)
          have OW8 := Lib.hid (RefOwn.newWin HM.out I1.out I2.out I3.out I4.out CU.out.rest.size CU.out.hS (show RefIn w8 (fun k => T k ∨ (wi.heap.size ≤ k ∧ k < w8.heap.size)) gw (y.win.see tch) from O8.out) R8'.out)
          have ngr : RB ≠ gw := by have := CU.out.gwl; have := H2.out; omega
          have ngx : XB ≠ gw := by have := CU.out.gwl; have := H3.out; omega
          have BR8 := Lib.hid (CU.out.br.grown R8'.out (fun k hk e => by injection hk with hk; exact ngr (e.trans hk.symm)))
          have BX8 := Lib.hid (CU.out.bx.grown R8'.out (fun k hk e => by injection hk with hk; exact ngx (e.trans hk.symm)))
          clear t0 t1 t2 t3 t4 tz g0 g1 g2 g3 g4 gz
          obtain ⟨x0, x1, x2, xz⟩ := BX8.out.c3
          obtain ⟨r0, r1, r2, rz⟩ := BR8.out.c3
          go_wp2
          obtain ⟨W9, hW9⟩ : ∃ W9, W9 = (((w8.setCell ⟨RB, 0, none⟩ (.int .i64 tl)).setCell ⟨RB, 1, none⟩ (.slice A8 m8 c8)).setCell ⟨RB, 2, none⟩ (.slice A5 m5 c5)) := ⟨_, rfl⟩
          have BR9 := Lib.hid (show Blk W9 RB [.int .i64 tl, .slice A8 m8 c8, .slice A5 m5 c5] by rw [hW9]; exact ((BR8.out.put (j := 0) (by simp) _ rfl).put (j := 1) (by simp) _ rfl).put (j := 2) (by simp) _ rfl)
          have hRX : RB < XB + 1 := by have := H2.out; have := H3.out; omega
          have hWX : w.heap.size ≤ XB + 1 := by have := H3.out; omega
          have hGX : gw < XB + 1 := by have := CU.out.gwl; omega
          have SO := (show Own oprRep W9 (XB + 1) (fun _ => False) 71 (.slice A8 m8 c8) O by rw [hW9]; exact (OU.out.kept R8'.out (fun k hk => ⟨fun e => (by have := OU.out.row_ge e; injection hk with hk; omega), fun h => h⟩)).kept3 hRX _ _ _).slB hWX
          have SN := (show Own noteRep W9 (XB + 1) (fun _ => False) 91 (.slice A5 m5 c5) N by rw [hW9]; exact (NU.out.kept R8'.out (fun k hk => ⟨fun e => (by have := NU.out.row_ge e; injection hk with hk; omega), fun h => h⟩)).kept3 hRX _ _ _).slB hWX
          have HST := (show ∀ k, T0 k → k < w.heap.size by obtain ⟨_, _, hh⟩ := HO.out; exact hh.hT)
          have hsz9 : w.heap.size ≤ W9.heap.size := by rw [hW9]; simp; exact Nat.le_trans CU.out.rest.size R8'.out.size
          have SM := (show RefMx W9 (fun k => T0 k ∨ (w.heap.size ≤ k ∧ k < W9.heap.size)) gx gw (y.setWin (y.win.see tch)) from (show RefOwn W9 w.heap.size T0 Su gx gw (y.setWin (y.win.see tch)) by rw [hW9]; exact ((OW8.out.set CU.out.srb 0 _).set CU.out.srb 1 _).set CU.out.srb 2 _).done (fun k hk => Nat.lt_of_lt_of_le (HST k hk) hsz9) (by obtain ⟨_, _, hh⟩ := HO.out; exact hh.nT) (by obtain ⟨_, _, hh⟩ := HO.out; obtain ⟨_, _, hw⟩ := hh.win; exact hw.ng) CU.out.gxl CU.out.gwl)
          have nSR : ¬ RS w gx gw RB := fun hs => by have := hs.1; have := H2.out; omega
          have SR := (show Rest (RS w gx gw) w W9 by rw [hW9]; exact (((CU.out.rest.grown R8'.out (fun k hk => Nat.lt_of_lt_of_le hk.1 CU.out.rest.size) (fun k hk hs => by injection hk with hk; exact hs.2.2 hk.symm)).set nSR 0 _).set nSR 1 _).set nSR 2 _)
          rw [← hW9]
          clear hW9 r0 r1 r2 rz
          obtain ⟨r0, r1, r2, rz⟩ := BR9.out.c3
          refine bodyPost_ret (by simp [results, Try.results106, go_sem, r0, r1, r2]; try rfl) rfl ?_
          unfold RItmPost Mx.cliI Mx.cliM
          dsimp only
          rw [HYE.out]
          dsimp only
          rw [HOE.out]
          exact ⟨A8, m8, c8, A5, m5, c5, rfl, SO.1, SN.1, SM, SR⟩
end Go.Proofs.Ythhpddiicnjmmaa
