/- The two muxes take a transaction: as one pair. The walk of the law MuxPlays. Written by gen_muxx.py. -/
import Derived.Test.YthhpddiicnjmmaaMuxU
import Derived.Test.YthhpddiicnjmmaaMuxR
import Derived.Test.YthhpddiicnjmmaaMuxK
import Derived.Deep.RegionHeld3
import Derived.Deep.QuietTactic
import Derived.BigQuiet
set_option linter.unusedVariables false
set_option linter.unusedSimpArgs false
set_option maxRecDepth 100000
namespace Go.Proofs.Ythhpddiicnjmmaa
open Go.RowKit

theorem takeI_len {x : Mx} (hf : x.Fine) (t : Txn) : (x.takeI t).ops.length ≤ 1000 ∧ (x.takeI t).notes.length ≤ 1000 := by
  unfold Mx.takeI
  split
  · next he =>
    have hm : mayTxn t = true := by
      cases hm : mayTxn t with
      | true => rfl
      | false => rw [(take_no (x := x) hm).1] at he; cases he
    have hp := (mayTxn_lsn hm).2.2.2
    split
    · next hk =>
      have h1 := ops_len ((x.setAt t.lsn).accs t.lsn t.signals).1 t.lsn t.changes
      have h2 := accs_len (x.setAt t.lsn) t.lsn t.signals
      have h3 := hp hk
      exact ⟨Nat.le_trans h1 (by omega), Nat.le_trans h2 (by omega)⟩
    · split
      · have hr : x.win.rows.length ≤ 64 := by have := hf.win.rows; have := hf.win.n2; omega
        have ht : ((x.setAt t.lsn).win.tell t.mark t.lsn).ops.length ≤ 1000 ∧ ((x.setAt t.lsn).win.tell t.mark t.lsn).notes.length ≤ 1000 := by
          unfold Win.tell
          split
          · refine ⟨?_, by simp⟩
            show (List.map _ _).length ≤ _
            rw [List.length_map]
            show x.win.rows.length ≤ _
            omega
          · exact ⟨by simp, by simp⟩
        unfold Mx.highI
        split
        · split
          · exact ht
          · exact ⟨ht.1, by simp⟩
        · exact ⟨by simp, by simp⟩
      · exact ⟨by simp, by simp⟩
  · exact ⟨by simp, by simp⟩

section
variable {w0 w : World} {S : Nat → Prop} {gm g gx gw : Nat} {x y : Mx}
theorem mp_waits_w (h : MPair w0 w S gm g gx gw x y) (lsn kind mark : Int) (A : Option Addr) (n c : Nat) (A2 : Option Addr) (n2 c2 : Nat) :
    Calls Try.prog 45 #[.agg #[.pointer (some ⟨g, 0, none⟩)], .agg #[.int .i64 lsn, .int .i64 kind, .slice A n c, .slice A2 n2 c2, .int .i64 mark]] w fun e w' => e = .returned (.bool (x.win.waits kind mark)) ∧ Below w.heap.size w w' := by
  obtain ⟨S1, _, _, hw, _⟩ := h.wins
  exact muxWaits_any S1 g x.win w hw lsn kind mark A n c A2 n2 c2
theorem mp_waits_r (h : MPair w0 w S gm g gx gw x y) (lsn kind mark : Int) (A : Option Addr) (n c : Nat) (A2 : Option Addr) (n2 c2 : Nat) :
    Calls Try.prog 46 #[.pointer (some ⟨gw, 0, none⟩), .agg #[.int .i64 lsn, .int .i64 kind, .slice A n c, .slice A2 n2 c2, .int .i64 mark]] w fun e w' => e = .returned (.bool (y.win.waits kind mark)) ∧ Below w.heap.size w w' := by
  obtain ⟨T, hw, _, _⟩ := h.refWin
  exact refwaits_any gw T y.win lsn kind mark w hw
/-- What both takings leave. -/
def MTake (w0 w : World) (gm g gx gw : Nat) (x y z : Mx) (t : Txn) (S' : Nat → Prop) (e : Ending) (w' : World) : Prop :=
  ∃ A n c A2 n2 c2, e = .returned (.tuple #[.agg #[.int .i64 (z.takeI t).lsn, .slice A n c, .slice A2 n2 c2], .int .i64 (z.takeE t)]) ∧ IsSl oprRep w' (fun k => w.heap.size ≤ k ∧ k < w'.heap.size) A n (z.takeI t).ops ∧ IsSl noteRep w' (fun k => w.heap.size ≤ k ∧ k < w'.heap.size) A2 n2 (z.takeI t).notes ∧ MPair w0 w' S' gm g gx gw x y
theorem mp_take_w (h : MPair w0 w S gm g gx gw x y) (hf : x.Fine) (t : Txn) (U : Nat → Prop) (hU : ∀ k, U k → S k) (A : Option Addr) (n c : Nat) (A2 : Option Addr) (n2 c2 : Nat) (ht : IsSl chgRep w U A n t.changes) (hs : IsSl strRep w U A2 n2 t.signals) :
    Calls Try.prog 28 #[.pointer (some ⟨gm, 0, none⟩), txnV t A n c A2 n2 c2] w fun e w' => MTake w0 w gm g gx gw (x.takeM t) y x t S e w' ∧ Rest S w w' := by
  refine (muxTake_any S gm g x w h.hS h.mux hf t A n c A2 n2 c2 (ht.weak hU) (hs.weak hU)).mono ?_
  rintro e w' ⟨A5, n5, c5, A6, n6, c6, rfl, s5, s6, m, r⟩
  exact ⟨⟨A5, n5, c5, A6, n6, c6, rfl, s5, s6, h.muxStep m r⟩, r⟩
theorem mp_take_r (h : MPair w0 w S gm g gx gw x y) (hf : y.Fine) (t : Txn) (U : Nat → Prop) (hU : ∀ k, U k → S k ∧ k ≠ gx ∧ k ≠ gw) (A : Option Addr) (n c : Nat) (A2 : Option Addr) (n2 c2 : Nat) (ht : IsSl chgRep w U A n t.changes) (hs : IsSl strRep w U A2 n2 t.signals) :
    Calls Try.prog 47 #[.pointer (some ⟨gx, 0, none⟩), txnV t A n c A2 n2 c2] w fun e w' => (∃ S', MTake w0 w gm g gx gw x (y.takeM t) y t S' e w') ∧ Rest (RS w gx gw) w w' := by
  obtain ⟨T, hr, hT⟩ := h.ref
  refine (refTake_any T gx gw y w hr hf t U (fun k hk => ⟨h.hS k (hU k hk).1, (hU k hk).2⟩) A n c A2 n2 c2 ht hs).mono ?_
  rintro e w' ⟨A5, n5, c5, A6, n6, c6, rfl, s5, s6, m, r⟩
  exact ⟨⟨_, A5, n5, c5, A6, n6, c6, rfl, s5, s6, h.refStep m hT r⟩, r⟩
theorem mp_alike (h : MPair w0 w S gm g gx gw x x) (hf : x.Fine) :
    Calls Try.prog 42 #[.pointer (some ⟨gm, 0, none⟩), .pointer (some ⟨gx, 0, none⟩)] w fun e w' => e = .returned (.bool true) ∧ Below w.heap.size w w' := by
  obtain ⟨T, hr, _⟩ := h.ref
  exact alike27_any S T gm g gx gw x w h.mux hr hf
end

/-- Where the two are begun. -/
theorem mpair_new {w2 w3 w4 : World} {gm g gx gw : Nat} {x : Mx} (m : MuxOwn w3 (· < w2.heap.size) gm g x) (b : Below w2.heap.size w2 w3) (r : RefMx w4 (fun k => w3.heap.size ≤ k ∧ k < w4.heap.size ∧ k ≠ gx ∧ k ≠ gw) gx gw x) (g1 : w3.heap.size ≤ gx) (g2 : w3.heap.size ≤ gw) (b2 : Below w3.heap.size w3 w4) : ∃ S, MPair w2 w4 S gm g gx gw x x := by
  have p := r.parts
  have hs := b.size
  refine ⟨fun k => k < w2.heap.size ∨ (w3.heap.size ≤ k ∧ k < w4.heap.size), m.step b2, ⟨_, r, fun k hk => .inr ⟨hk.1, hk.2.1⟩⟩, .inr ⟨g1, p.1⟩, .inr ⟨g2, p.2.1⟩, ?_, fun k hk => .inl hk, b.trans (b2.mono hs), Nat.le_trans hs g1, Nat.le_trans hs g2⟩
  rintro k (h | h)
  · exact Nat.lt_of_lt_of_le (Nat.lt_of_lt_of_le h hs) b2.size
  · exact h.2

theorem IsSl.mov {w w' : World} {B n k : Nat} {A : Option Addr} {l : List Mov} (h : IsSl movRep w (· < B) A n l) (hk : k < n) (hw : ∀ p : Addr, p.block < B → w'.cell? p = w.cell? p) :
    ∃ (b off : Nat) (x : Mov) (A2 : Option Addr) (n2 c2 : Nat), A = some ⟨b, off, none⟩ ∧ b < B ∧ (I64 x.kind ∧ I64 x.id ∧ I64 x.table ∧ I64 x.after) ∧ w'.cell? ⟨b, off + k * 5, none⟩ = some (.int .i64 x.kind) ∧ w'.cell? ⟨b, off + k * 5 + 1, none⟩ = some (.int .i64 x.id) ∧ w'.cell? ⟨b, off + k * 5 + 2, none⟩ = some (.int .i64 x.table) ∧ w'.cell? ⟨b, off + k * 5 + 3, none⟩ = some (.int .i64 x.after) ∧ w'.cell? ⟨b, off + k * 5 + 4, none⟩ = some (.slice A2 n2 c2) ∧ IsSl rowRep w (· < B) A2 n2 x.rows ∧ n2 ≤ c2 ∧ c2 ≤ maxLen := by
  obtain ⟨b, off, x, cs, rfl, hb, hx, ⟨v4, rfl, i0, i1, i2, i3, ⟨A2, n2, c2, h2, s2, l2, m2⟩⟩, hc⟩ := h.at_ hk
  obtain rfl : v4 = .slice A2 n2 c2 := by simpa using h2
  exact ⟨b, off, x, A2, n2, c2, rfl, hb, ⟨i0, i1, i2, i3⟩, (hw _ hb).trans (hc 0 _ rfl), (hw _ hb).trans (hc 1 _ rfl), (hw _ hb).trans (hc 2 _ rfl), (hw _ hb).trans (hc 3 _ rfl), (hw _ hb).trans (hc 4 _ rfl), s2, l2, m2⟩

/-- Behind the law's next: the transaction lies in block TB. -/
structure Aft (wd w5 : World) (TB : Nat) (y : Txn) (A : Option Addr) (n c : Nat) (A2 : Option Addr) (n2 c2 : Nat) : Prop where
  bel : Below wd.heap.size wd w5
  bt : Blk w5 TB [.int .i64 y.lsn, .int .i64 y.kind, .slice A n c, .slice A2 n2 c2, .int .i64 y.mark]
  ge : wd.heap.size ≤ TB
  s1 : IsSl chgRep w5 (fun k => wd.heap.size ≤ k ∧ k < w5.heap.size) A n y.changes
  s2 : IsSl strRep w5 (fun k => wd.heap.size ≤ k ∧ k < w5.heap.size) A2 n2 y.signals
theorem aft_A {wd w' w5 : World} {TB : Nat} {y : Txn} {A : Option Addr} {n c : Nat} {A2 : Option Addr} {n2 c2 : Nat} {t : TypeId} (hT : TB = w'.heap.size) (h5 : w5 = w'.alloc (.cells #[.int .i64 y.lsn, .int .i64 y.kind, .slice A n c, .slice A2 n2 c2, .int .i64 y.mark] t)) (s1 : IsSl chgRep w' (fun k => wd.drew.heap.size ≤ k ∧ k < w'.heap.size) A n y.changes) (s2 : IsSl strRep w' (fun k => wd.drew.heap.size ≤ k ∧ k < w'.heap.size) A2 n2 y.signals) (b : Below wd.drew.heap.size wd.drew w') : Aft wd w5 TB y A n c A2 n2 c2 := by
  have b' : Below wd.heap.size wd w' := below_of_drew b
  have hb : Below w'.heap.size w' w5 := by rw [h5]; exact (Below.refl _ _).alloc (Nat.le_refl _) _
  have hs := hb.size
  exact ⟨b'.trans (hb.mono b'.size), by rw [h5, hT]; exact Blk.new rfl rfl, by rw [hT]; exact b'.size, (s1.keep (fun p hp => hb.cell hp.2)).weak (fun k hk => ⟨hk.1, Nat.lt_of_lt_of_le hk.2 hs⟩), (s2.keep (fun p hp => hb.cell hp.2)).weak (fun k hk => ⟨hk.1, Nat.lt_of_lt_of_le hk.2 hs⟩)⟩
theorem aft_B {wd V w' w5 : World} {TB : Nat} {y : Txn} {A : Option Addr} {n c : Nat} {A2 : Option Addr} {n2 c2 : Nat} {o : Obj} (hV : V = (wd.alloc o).drew) (hT : TB = wd.heap.size) (h5 : w5 = ((((w'.setCell ⟨TB, 0, none⟩ (.int .i64 y.lsn)).setCell ⟨TB, 1, none⟩ (.int .i64 y.kind)).setCell ⟨TB, 2, none⟩ (.slice A n c)).setCell ⟨TB, 3, none⟩ (.slice A2 n2 c2)).setCell ⟨TB, 4, none⟩ (.int .i64 y.mark)) (hx : Blk w' TB [.int .i64 0, .int .i64 0, .slice none 0 0, .slice none 0 0, .int .i64 0]) (s1 : IsSl chgRep w' (fun k => V.heap.size ≤ k ∧ k < w'.heap.size) A n y.changes) (s2 : IsSl strRep w' (fun k => V.heap.size ≤ k ∧ k < w'.heap.size) A2 n2 y.signals) (b : Below V.heap.size V w') : Aft wd w5 TB y A n c A2 n2 c2 := by
  have hVs : V.heap.size = wd.heap.size + 1 := by rw [hV]; simp
  have b0 : Below wd.heap.size wd V := by rw [hV]; exact below_drewN ((Below.refl _ _).alloc (Nat.le_refl _) _) 1
  have b' : Below wd.heap.size wd w' := b0.trans (b.mono (by omega))
  have hTB : wd.heap.size ≤ TB := by omega
  have hs : w5.heap.size = w'.heap.size := by rw [h5]; simp
  have hc : ∀ p : Addr, p.block ≠ TB → w5.cell? p = w'.cell? p := fun p hp => by rw [h5]; exact cell_set5 hp _ _ _ _ _
  refine ⟨by rw [h5]; exact ((((b'.setCell hTB _).setCell hTB _).setCell hTB _).setCell hTB _).setCell hTB _, by rw [h5]; exact ((((hx.put (j := 0) (by simp) _ rfl).put (j := 1) (by simp) _ rfl).put (j := 2) (by simp) _ rfl).put (j := 3) (by simp) _ rfl).put (j := 4) (by simp) _ rfl, hTB, ?_, ?_⟩
  · exact (s1.keep (fun p hp => hc p (by have := hp.1; omega))).weak (fun k hk => ⟨by omega, by omega⟩)
  · exact (s2.keep (fun p hp => hc p (by have := hp.1; omega))).weak (fun k hk => ⟨by omega, by omega⟩)
end Go.Proofs.Ythhpddiicnjmmaa

set_option linter.unusedVariables false
set_option linter.unusedSimpArgs false
set_option maxRecDepth 100000
namespace Go.Proofs.Ythhpddiicnjmmaa
open Go.RowKit

set_option maxHeartbeats 16000000 in
theorem muxPlays_walk (w : World) (c : Cfg) (cs : Array Value) (hcs : cfgRep.rel w (· < w.heap.size) c cs.toList) (A : Option Addr) (n cc : Nat) (L : List Txn) (h : IsSl txnRep w (· < w.heap.size) A n L) (h1 : n ≤ cc) (h2 : cc ≤ maxLen) (Av : Option Addr) (nv cv : Nat) (V : List Mov) (hv : IsSl movRep w (· < w.heap.size) Av nv V) (h3 : nv ≤ cv) (h4 : cv ≤ maxLen) :
    Calls Try.prog 10 #[.agg cs, .slice A n cc, .slice Av nv cv] w fun e w' => e = .returned (.bool true) ∧ Below w.heap.size w w' := by
  obtain rfl : cs = #[.int .i64 c.tables, .int .i64 c.late, .int .i64 c.size, .int .i64 c.queue, .int .i64 c.chunk, .int .i64 c.batch, .int .i64 c.base, .int .i64 c.cap, .int .i64 c.jitter, .int .i64 c.every] := by
    have := hcs.1
    cases cs
    simp only [Cfg.cells] at this
    exact congrArg Array.mk this
  have HH := Lib.hid h
  have HV := Lib.hid hv
  have HP := Lib.hid (cfg_new c)
  have HPC := Lib.hid (playConfig_any c)
  obtain ⟨d, hd⟩ : ∃ d, d = playCfg c := ⟨_, rfl⟩
  rw [← hd] at HP HPC
  have hd1 := HP.out.2.1
  have hd2 := HP.out.2.2
  obtain ⟨dt, hdt⟩ := Int.eq_ofNat_of_zero_le (show 0 ≤ d.tables by omega)
  have HDT := Lib.hid hdt
  have hdt4 : dt ≤ 4 := by omega
  have hnv : nv ≤ maxLen := Nat.le_trans h3 h4
  unfold maxLen at hnv
  clear h hv hcs hd hd1 hd2 hdt
  obtain ⟨CB, hCB⟩ : ∃ CB, CB = w.heap.size := ⟨_, rfl⟩
  have H1 := Lib.hid hCB
  have hCBw : w.heap.size ≤ CB := by rw [hCB]; exact Nat.le_refl _
  obtain ⟨W, hW⟩ : ∃ W, W = w.alloc (.cells #[.int .i64 c.tables, .int .i64 c.late, .int .i64 c.size, .int .i64 c.queue, .int .i64 c.chunk, .int .i64 c.batch, .int .i64 c.base, .int .i64 c.cap, .int .i64 c.jitter, .int .i64 c.every] 49) := ⟨_, rfl⟩
  have HW := Lib.hid hW
  have BC := Lib.hid (show Blk W CB [.int .i64 c.tables, .int .i64 c.late, .int .i64 c.size, .int .i64 c.queue, .int .i64 c.chunk, .int .i64 c.batch, .int .i64 c.base, .int .i64 c.cap, .int .i64 c.jitter, .int .i64 c.every] by rw [hW, hCB]; exact Blk.new rfl rfl)
  have BW := Lib.hid (show Below w.heap.size w W by rw [hW]; exact (Below.refl _ _).alloc (Nat.le_refl _) _)
  clear hW hCB
  go_enter Try.func10, Try.ntmps10
  go_wp2_with (first
    | (go_at_call 24; rw [← HW.out, ← H1.out]; (with_reducible refine (HPC.out W).mono ?_); rintro e w1 ⟨rfl, bel1⟩; have B1 := Lib.hid (BW.out.trans (bel1.mono BW.out.size)); have BC1 := Lib.hid (BC.out.after bel1); have b0 := BC1.out.1 0 _ rfl; have b1 := BC1.out.1 1 _ rfl; have b2 := BC1.out.1 2 _ rfl; have b3 := BC1.out.1 3 _ rfl; have b4 := BC1.out.1 4 _ rfl; have b5 := BC1.out.1 5 _ rfl; have b6 := BC1.out.1 6 _ rfl; have b7 := BC1.out.1 7 _ rfl; have b8 := BC1.out.1 8 _ rfl; have b9 := BC1.out.1 9 _ rfl; have bz := BC1.out.2.1; clear bel1)
    | (go_at_call 25; generalize hw2 : World.setCell _ ⟨CB, 9, none⟩ _ = w2; have BC2 := Lib.hid (show Blk w2 CB [.int .i64 d.tables, .int .i64 d.late, .int .i64 d.size, .int .i64 d.queue, .int .i64 d.chunk, .int .i64 d.batch, .int .i64 d.base, .int .i64 d.cap, .int .i64 d.jitter, .int .i64 d.every] by rw [← hw2]; exact ((((((((((BC1.out.put (j := 0) (by simp) _ rfl).put (j := 1) (by simp) _ rfl).put (j := 2) (by simp) _ rfl).put (j := 3) (by simp) _ rfl).put (j := 4) (by simp) _ rfl).put (j := 5) (by simp) _ rfl).put (j := 6) (by simp) _ rfl).put (j := 7) (by simp) _ rfl).put (j := 8) (by simp) _ rfl).put (j := 9) (by simp) _ rfl)); have B2 := Lib.hid (show Below w.heap.size w w2 by rw [← hw2]; exact (((((((((B1.out.setCell hCBw _).setCell hCBw _).setCell hCBw _).setCell hCBw _).setCell hCBw _).setCell hCBw _).setCell hCBw _).setCell hCBw _).setCell hCBw _).setCell hCBw _); clear hw2; (with_reducible refine (muxNew_any d.tables d.late d.chunk 0 none 0 0 [] w2 IsSl.nil (by omega)).mono ?_); rintro e w3 hp3; rcases hp3 with ⟨_, gm, g, rfl, m3, bel3⟩ | ⟨h0, _⟩; rotate_left 1; (exact absurd HP.out.1 (by rw [h0]; decide)); have M3 := Lib.hid m3; have D3 := Lib.hid bel3; have BC3 := Lib.hid (BC2.out.after bel3); clear m3 bel3 b0 b1 b2 b3 b4 b5 b6 b7 b8 b9 bz; have b0 := BC3.out.1 0 _ rfl; have b1 := BC3.out.1 1 _ rfl; have b4 := BC3.out.1 4 _ rfl; have bz := BC3.out.2.1)
    | (go_at_call 41; (with_reducible refine (refNewMux_any d.tables d.late d.chunk 0 none 0 0 [] w3 IsSl.nil (by omega)).mono ?_); rintro e w4 hp4; rcases hp4 with ⟨_, gx, gw, rfl, g1, g2, r4, bel4⟩ | ⟨h0, _⟩; rotate_left 1; (exact absurd HP.out.1 (by rw [h0]; decide)); have P4 := Lib.hid (mpair_new M3.out D3.out r4 g1 g2 bel4); have B4 := Lib.hid (D3.out.trans (bel4.mono D3.out.size)); clear r4 bel4)
    | fail)
  obtain ⟨S4, hp4⟩ := P4.out
  have P5 := Lib.hid hp4
  clear hp4
  go_loopw [10] (fun iv wr => ∃ (k : Nat) (S : Nat → Prop) (x : Mx), iv = .int .i64 k ∧ k ≤ 50 ∧ MPair w2 wr S gm g gx gw x x ∧ x.FineA) (fun iv _ => 50 - (intOf iv).toNat)
  case atStart => exact ⟨0, S4, _, rfl, Nat.zero_le _, P5.out, fine_new HP.out.1, i64_0⟩
  case round =>
    obtain ⟨wo, rfl⟩ : ∃ q : World, q = wr := ⟨_, rfl⟩
    obtain ⟨k, S, x, rfl, hk, hp, hf⟩ := hrel
    have P := Lib.hid hp
    have HF := Lib.hid hf
    clear hp hf b0 b1 b4 bz
    by_cases hlt : k < n ∧ k < 50
    case neg =>
      have BE := Lib.hid (show Below w.heap.size w wo from B2.out.trans (P.out.bel.mono B2.out.size))
      by_cases hk1 : k < n
      case' pos =>
        have hd1 : decide ((k : Int) < (n : Int)) = true := decide_eq_true (by omega)
        have hd1n : decide (k < n) = true := decide_eq_true hk1
        have hd2 : decide ((k : Int) < 50) = false := decide_eq_false (by omega)
        have hd2n : decide (k < 50) = false := decide_eq_false (by omega)
      case' neg =>
        have hd1 : decide ((k : Int) < (n : Int)) = false := decide_eq_false (by omega)
        have hd1n : decide (k < n) = false := decide_eq_false hk1
      all_goals
        clear hlt hk1
        go_wp2_with (first
          | (go_at_call 36; (with_reducible refine (awake27_any wo).mono ?_); rintro e w9 ⟨rfl, bel9⟩; have B9 := Lib.hid (BE.out.trans (bel9.mono BE.out.size)); clear bel9)
          | fail)
        go_ret
        exact ⟨rfl, B9.out⟩
    case pos =>
      obtain ⟨hk1, hk2⟩ := hlt
      have hd1 : decide ((k : Int) < (n : Int)) = true := decide_eq_true (by omega)
      have hd1n : decide (k < n) = true := decide_eq_true hk1
      have hd2 : decide ((k : Int) < 50) = true := decide_eq_true (by omega)
      have hd2n : decide (k < 50) = true := decide_eq_true hk2
      have hki : (k : Int) < (n : Int) := by omega
      have hk0 : (0 : Int) ≤ (k : Int) := by omega
      go_wp2_with fail
      go_loopw [11] (fun jv wr => ∃ (j : Nat) (S : Nat → Prop) (x : Mx), jv = .int .i64 j ∧ j ≤ 2 ∧ MPair w2 wr S gm g gx gw x x ∧ x.FineA) (fun jv _ => 2 - (intOf jv).toNat)
      case atStart => exact ⟨0, S, x, rfl, Nat.zero_le _, P.out, HF.out⟩
      case round =>
        obtain ⟨wi, rfl⟩ : ∃ q : World, q = wr := ⟨_, rfl⟩
        obtain ⟨j, Sj, z, rfl, hj, hp, hf⟩ := hrel
        have PJ := Lib.hid hp
        have HZ := Lib.hid hf
        clear hp hf
        have BJ := Lib.hid (show Below w.heap.size w wi from B2.out.trans (PJ.out.bel.mono B2.out.size))
        by_cases hjn : j < 2 ∧ 0 < nv
        case pos =>
          obtain ⟨hj2, hnv0⟩ := hjn
          have e1 : decide ((j : Int) < 2) = true := decide_eq_true (by omega)
          have e1n : decide (j < 2) = true := decide_eq_true hj2
          have e2 : decide ((0 : Int) < (nv : Int)) = true := decide_eq_true (by omega)
          have e2n : decide (0 < nv) = true := decide_eq_true hnv0
          obtain ⟨q, hq⟩ : ∃ q, q = (2 * k + j) % nv := ⟨_, rfl⟩
          have hqn : q < nv := by rw [hq]; exact Nat.mod_lt _ hnv0
          have hqi : (2 * (k : Int) + (j : Int)) % (nv : Int) = (q : Int) := by rw [hq]; push_cast; rfl
          have hqt : (2 * (k : Int) + (j : Int)).tmod (nv : Int) = (q : Int) := by rw [Int.tmod_eq_emod_of_nonneg (by omega)]; exact hqi
          have hq0 : (0 : Int) ≤ (q : Int) := by omega
          have hqv : (q : Int) < (nv : Int) := by omega
          have hnz : ((nv : Int) == 0) = false := by simp; omega
          have hnz2 : ¬ (nv : Int) = 0 := by omega
          obtain ⟨b0, off, mv, Ar, nr, cr, rfl, hb0, hmi, c0, c1, c2, c3, c4, srow, lrow, mrow⟩ := HV.out.mov (w' := wi) hqn (fun p hp => BJ.out.cell hp)
          have HMI := Lib.hid hmi
          have HRW := Lib.hid (show IsSl rowRep w2 (· < w2.heap.size) Ar nr mv.rows from (srow.below B2.out).more B2.out.size)
          have HLR := Lib.hid (show nr ≤ cr ∧ cr ≤ maxLen from ⟨lrow, mrow⟩)
          obtain ⟨vk, vi, vt, va, vr⟩ := mv
          dsimp only at c0 c1 c2 c3 c4 HMI HRW
          clear hq hmi srow lrow mrow
          go_wp2_with (first
            | (go_at_call 43; (with_reducible refine (turn_any w2 wi Sj gm g gx gw z PJ.out HZ.out ⟨vk, vi, vt, va, vr⟩ Ar nr cr HMI.out.1 HMI.out.2.1 HMI.out.2.2.1 HMI.out.2.2.2 HRW.out HLR.out.1 HLR.out.2).mono ?_); rintro e w6 ⟨rfl, S6, z6, p6, f6⟩; have P6 := Lib.hid p6; have F6 := Lib.hid f6; clear p6 f6)
            | fail)
          go_roundw
          case rel => exact ⟨j + 1, S6, z6, by go_num, by omega, P6.out, F6.out⟩
          case measure => simp [intOf]; omega
        case neg =>
          obtain ⟨b0, off, t0, At, nt, ct, As, ns, cs', rfl, hb0, hx, hti, q0, q1, q2, q3, q4, st, lt, mt, ss, ls, ms⟩ := HH.out.txn hk1 (fun p hp => BJ.out.cell hp)
          obtain ⟨tl, tk, tch, tsg, tm⟩ := t0
          dsimp only at q0 q1 q2 q3 q4 hti st ss
          have HTI := Lib.hid hti
          have HST := Lib.hid (show IsSl chgRep wi (· < wi.heap.size) At nt tch from st.more BJ.out.size)
          have HSS := Lib.hid (show IsSl strRep wi (· < wi.heap.size) As ns tsg from ss.more BJ.out.size)
          have HLL := Lib.hid (show (nt ≤ ct ∧ ct ≤ maxLen) ∧ (ns ≤ cs' ∧ cs' ≤ maxLen) from ⟨⟨lt, mt⟩, ⟨ls, ms⟩⟩)
          have hb0d : b0 < wi.heap.size := Nat.lt_of_lt_of_le hb0 BJ.out.size
          have hcbd : CB < wi.heap.size := Nat.lt_of_lt_of_le BC2.out.lt PJ.out.bel.size
          have q5 : wi.cell? ⟨CB, 0, none⟩ = some (.int .i64 (dt : Int)) := by rw [← HDT.out]; exact (PJ.out.bel.cell (p := ⟨CB, 0, none⟩) BC2.out.lt).trans (BC2.out.1 0 _ rfl)
          have HQ := Lib.hid (show wi.cell? ⟨b0, off + k * 5, none⟩ = some (.int .i64 tl) ∧ wi.cell? ⟨b0, off + k * 5 + 1, none⟩ = some (.int .i64 tk) ∧ wi.cell? ⟨b0, off + k * 5 + 2, none⟩ = some (.slice At nt ct) ∧ wi.cell? ⟨b0, off + k * 5 + 3, none⟩ = some (.slice As ns cs') ∧ wi.cell? ⟨b0, off + k * 5 + 4, none⟩ = some (.int .i64 tm) ∧ wi.cell? ⟨CB, 0, none⟩ = some (.int .i64 (dt : Int)) from ⟨q0, q1, q2, q3, q4, q5⟩)
          have hw5 : IntKind.i64.wrap ((dt : Int) + 1) = (dt : Int) + 1 := IntWalk.i64_in _ (by omega)
          obtain ⟨Tz, hrz, hTz⟩ := PJ.out.ref
          have HRZ := Lib.hid hrz
          clear hx hti st ss lt mt ls ms hrz
          by_cases hj2 : j < 2
          case' pos =>
            have e1 : decide ((j : Int) < 2) = true := decide_eq_true (by omega)
            have e1n : decide (j < 2) = true := decide_eq_true hj2
            have e2 : decide ((0 : Int) < (nv : Int)) = false := decide_eq_false (by omega)
            have e2n : decide (0 < nv) = false := decide_eq_false (by omega)
          case' neg =>
            have e1 : decide ((j : Int) < 2) = false := decide_eq_false (by omega)
            have e1n : decide (j < 2) = false := decide_eq_false hj2
          all_goals
            clear hj2 hjn
            have KA := Lib.hid (next27_any Tz gx gw z wi.drew (HRZ.out.below (below_drewN (Below.refl _ _) 1)) HZ.out.1 ⟨tl, tk, tch, tsg, tm⟩ At nt ct As ns cs' HTI.out.1 HTI.out.2.1 HTI.out.2.2 (HST.out.keep (fun _ _ => rfl)) HLL.out.1.1 HLL.out.1.2 (HSS.out.keep (fun _ _ => rfl)) HLL.out.2.1 HLL.out.2.2 (dt + 1) ((dt : Int) + 1) (by omega) (by omega) (by omega))
            have BZ := Lib.hid (show Below wi.heap.size wi (wi.alloc (.cells #[.int .i64 0, .int .i64 0, .slice none 0 0, .slice none 0 0, .int .i64 0] 68)).drew from below_drewN ((Below.refl _ _).alloc (Nat.le_refl _) _) 1)
            have KB := Lib.hid (next27_any Tz gx gw z (wi.alloc (.cells #[.int .i64 0, .int .i64 0, .slice none 0 0, .slice none 0 0, .int .i64 0] 68)).drew (HRZ.out.below BZ.out) HZ.out.1 ⟨tl, tk, tch, tsg, tm⟩ At nt ct As ns cs' HTI.out.1 HTI.out.2.1 HTI.out.2.2 ((HST.out.below BZ.out).more BZ.out.size) HLL.out.1.1 HLL.out.1.2 ((HSS.out.below BZ.out).more BZ.out.size) HLL.out.2.1 HLL.out.2.2 (dt + 1) ((dt : Int) + 1) (by omega) (by omega) (by omega))
            unfold txnV at KA KB
            have HQA := Lib.hid (show wi.drew.cell? ⟨b0, off + k * 5, none⟩ = some (.int .i64 tl) ∧ wi.drew.cell? ⟨b0, off + k * 5 + 1, none⟩ = some (.int .i64 tk) ∧ wi.drew.cell? ⟨b0, off + k * 5 + 2, none⟩ = some (.slice At nt ct) ∧ wi.drew.cell? ⟨b0, off + k * 5 + 3, none⟩ = some (.slice As ns cs') ∧ wi.drew.cell? ⟨b0, off + k * 5 + 4, none⟩ = some (.int .i64 tm) ∧ wi.drew.cell? ⟨CB, 0, none⟩ = some (.int .i64 (dt : Int)) from ⟨q0, q1, q2, q3, q4, q5⟩)
            have HQZ := Lib.hid (show ((wi.alloc (.cells #[.int .i64 0, .int .i64 0, .slice none 0 0, .slice none 0 0, .int .i64 0] 68)).drew).cell? ⟨b0, off + k * 5, none⟩ = some (.int .i64 tl) ∧ ((wi.alloc (.cells #[.int .i64 0, .int .i64 0, .slice none 0 0, .slice none 0 0, .int .i64 0] 68)).drew).cell? ⟨b0, off + k * 5 + 1, none⟩ = some (.int .i64 tk) ∧ ((wi.alloc (.cells #[.int .i64 0, .int .i64 0, .slice none 0 0, .slice none 0 0, .int .i64 0] 68)).drew).cell? ⟨b0, off + k * 5 + 2, none⟩ = some (.slice At nt ct) ∧ ((wi.alloc (.cells #[.int .i64 0, .int .i64 0, .slice none 0 0, .slice none 0 0, .int .i64 0] 68)).drew).cell? ⟨b0, off + k * 5 + 3, none⟩ = some (.slice As ns cs') ∧ ((wi.alloc (.cells #[.int .i64 0, .int .i64 0, .slice none 0 0, .slice none 0 0, .int .i64 0] 68)).drew).cell? ⟨b0, off + k * 5 + 4, none⟩ = some (.int .i64 tm) ∧ ((wi.alloc (.cells #[.int .i64 0, .int .i64 0, .slice none 0 0, .slice none 0 0, .int .i64 0] 68)).drew).cell? ⟨CB, 0, none⟩ = some (.int .i64 (dt : Int)) from ⟨(BZ.out.cell (p := ⟨b0, _, none⟩) hb0d).trans q0, (BZ.out.cell (p := ⟨b0, _, none⟩) hb0d).trans q1, (BZ.out.cell (p := ⟨b0, _, none⟩) hb0d).trans q2, (BZ.out.cell (p := ⟨b0, _, none⟩) hb0d).trans q3, (BZ.out.cell (p := ⟨b0, _, none⟩) hb0d).trans q4, (BZ.out.cell (p := ⟨CB, 0, none⟩) hcbd).trans q5⟩)
            have HZX := Lib.hid (show Blk (wi.alloc (.cells #[.int .i64 0, .int .i64 0, .slice none 0 0, .slice none 0 0, .int .i64 0] 68)).drew wi.heap.size [.int .i64 0, .int .i64 0, .slice none 0 0, .slice none 0 0, .int .i64 0] from (Blk.new rfl rfl).drew)
            have HB0Z := Lib.hid (show b0 < (wi.alloc (.cells #[.int .i64 0, .int .i64 0, .slice none 0 0, .slice none 0 0, .int .i64 0] 68)).drew.heap.size from Nat.lt_of_lt_of_le hb0d BZ.out.size)
            have HCBZ := Lib.hid (show CB < (wi.alloc (.cells #[.int .i64 0, .int .i64 0, .slice none 0 0, .slice none 0 0, .int .i64 0] 68)).drew.heap.size from Nat.lt_of_lt_of_le hcbd BZ.out.size)
            go_wp2_with fail
            refine wp_region_held_drew (S := (fun w' => w'.cell? ⟨b0, off + k * 5, none⟩ = some (.int .i64 tl) ∧ w'.cell? ⟨b0, off + k * 5 + 1, none⟩ = some (.int .i64 tk) ∧ w'.cell? ⟨b0, off + k * 5 + 2, none⟩ = some (.slice At nt ct) ∧ w'.cell? ⟨b0, off + k * 5 + 3, none⟩ = some (.slice As ns cs') ∧ w'.cell? ⟨b0, off + k * 5 + 4, none⟩ = some (.int .i64 tm) ∧ w'.cell? ⟨CB, 0, none⟩ = some (.int .i64 (dt : Int)))) (by kernel_rfl) (HQA.out) (fun hHeld => ?_)
            (refine wpAnyH_take (i := 0) (v := ?_) rfl (by kernel_rfl) (by kernel_rfl) (by kernel_rfl) (fun _ _ _ h => h) (Or.inl ⟨by rfl, ?_⟩) hHeld ?_; rotate_left 1; focus (intro w hSw; (try dsimp only at hSw); go_simp; try with_reducible rfl)); (try simp only [Act.put, List.getElem_toArray, List.getElem_cons_zero, List.getElem_cons_succ, List.setIfInBounds_toArray, List.set_cons_zero, List.set_cons_succ])
            (refine wpAnyH_take (i := 1) (v := ?_) rfl (by kernel_rfl) (by kernel_rfl) (by kernel_rfl) (fun _ _ _ h => h) (Or.inl ⟨by rfl, ?_⟩) hHeld ?_; rotate_left 1; focus (intro w hSw; (try dsimp only at hSw); go_simp; try with_reducible rfl)); (try simp only [Act.put, List.getElem_toArray, List.getElem_cons_zero, List.getElem_cons_succ, List.setIfInBounds_toArray, List.set_cons_zero, List.set_cons_succ])
            (refine wpAnyH_take (i := 2) (v := ?_) rfl (by kernel_rfl) (by kernel_rfl) (by kernel_rfl) (fun _ _ _ h => h) (Or.inl ⟨by rfl, ?_⟩) hHeld ?_; rotate_left 1; focus (intro w hSw; (try dsimp only at hSw); go_simp; try with_reducible rfl)); (try simp only [Act.put, List.getElem_toArray, List.getElem_cons_zero, List.getElem_cons_succ, List.setIfInBounds_toArray, List.set_cons_zero, List.set_cons_succ])
            (refine wpAnyH_take (i := 3) (v := ?_) rfl (by kernel_rfl) (by kernel_rfl) (by kernel_rfl) (fun _ _ _ h => h) (Or.inl ⟨by rfl, ?_⟩) hHeld ?_; rotate_left 1; focus (intro w hSw; (try dsimp only at hSw); go_simp; try with_reducible rfl)); (try simp only [Act.put, List.getElem_toArray, List.getElem_cons_zero, List.getElem_cons_succ, List.setIfInBounds_toArray, List.set_cons_zero, List.set_cons_succ])
            (refine wpAnyH_take (i := 4) (v := ?_) rfl (by kernel_rfl) (by kernel_rfl) (by kernel_rfl) (fun _ _ _ h => h) (Or.inl ⟨by rfl, ?_⟩) hHeld ?_; rotate_left 1; focus (intro w hSw; (try dsimp only at hSw); go_simp; try with_reducible rfl)); (try simp only [Act.put, List.getElem_toArray, List.getElem_cons_zero, List.getElem_cons_succ, List.setIfInBounds_toArray, List.set_cons_zero, List.set_cons_succ])
            (refine wpAnyH_take (i := 5) (v := ?_) rfl (by kernel_rfl) (by kernel_rfl) (by kernel_rfl) (fun _ _ _ h => h) (Or.inl ⟨by rfl, ?_⟩) hHeld ?_; rotate_left 1; focus (intro w hSw; (try dsimp only at hSw); go_simp; try with_reducible rfl)); (try simp only [Act.put, List.getElem_toArray, List.getElem_cons_zero, List.getElem_cons_succ, List.setIfInBounds_toArray, List.set_cons_zero, List.set_cons_succ])
            (refine wpAnyH_take (i := 6) (v := ?_) rfl (by kernel_rfl) (by kernel_rfl) (by kernel_rfl) (fun _ _ _ h => h) (Or.inl ⟨by rfl, ?_⟩) hHeld ?_; rotate_left 1; focus (intro w hSw; (try dsimp only at hSw); go_simp; try with_reducible rfl)); (try simp only [Act.put, List.getElem_toArray, List.getElem_cons_zero, List.getElem_cons_succ, List.setIfInBounds_toArray, List.set_cons_zero, List.set_cons_succ])
            (refine wpAnyH_take (i := 7) (v := ?_) rfl (by kernel_rfl) (by kernel_rfl) (by kernel_rfl) (fun _ _ _ h => h) (Or.inl ⟨by rfl, ?_⟩) hHeld ?_; rotate_left 1; focus (intro w hSw; (try dsimp only at hSw); go_simp; try with_reducible rfl)); (try simp only [Act.put, List.getElem_toArray, List.getElem_cons_zero, List.getElem_cons_succ, List.setIfInBounds_toArray, List.set_cons_zero, List.set_cons_succ])
            refine wpAnyH_ready (rs := [8, 9]) (by kernel_rfl) (by simp) ?_
            refine AllReadyH.cons rfl (fun K hK => ?_) (AllReadyH.cons rfl (fun K hK => ?_) AllReadyH.nil)
            go_simp
            (go_at_call 44; (with_reducible refine KA.out.mono ?_); rintro e w6 ⟨⟨yl, yk, yc, ys, ym⟩, A5, n5, c5, A6, n6, c6, rfl, s5, s6, bel6⟩; simp only [txnV]; dsimp only at s5 s6; have T5 := Lib.hid s5; have T6 := Lib.hid s6; have E6 := Lib.hid bel6; have hs6 : wi.heap.size ≤ w6.heap.size := bel6.size; have HQ6 := Lib.hid (show w6.cell? ⟨b0, off + k * 5, none⟩ = some (.int .i64 tl) ∧ w6.cell? ⟨b0, off + k * 5 + 1, none⟩ = some (.int .i64 tk) ∧ w6.cell? ⟨b0, off + k * 5 + 2, none⟩ = some (.slice At nt ct) ∧ w6.cell? ⟨b0, off + k * 5 + 3, none⟩ = some (.slice As ns cs') ∧ w6.cell? ⟨b0, off + k * 5 + 4, none⟩ = some (.int .i64 tm) ∧ w6.cell? ⟨CB, 0, none⟩ = some (.int .i64 (dt : Int)) from ⟨(bel6.cell (p := ⟨b0, _, none⟩) hb0d).trans q0, (bel6.cell (p := ⟨b0, _, none⟩) hb0d).trans q1, (bel6.cell (p := ⟨b0, _, none⟩) hb0d).trans q2, (bel6.cell (p := ⟨b0, _, none⟩) hb0d).trans q3, (bel6.cell (p := ⟨b0, _, none⟩) hb0d).trans q4, (bel6.cell (p := ⟨CB, 0, none⟩) hcbd).trans q5⟩); have HQ7 := Lib.hid (show ∀ o, (w6.alloc o).cell? ⟨b0, off + k * 5, none⟩ = some (.int .i64 tl) ∧ (w6.alloc o).cell? ⟨b0, off + k * 5 + 1, none⟩ = some (.int .i64 tk) ∧ (w6.alloc o).cell? ⟨b0, off + k * 5 + 2, none⟩ = some (.slice At nt ct) ∧ (w6.alloc o).cell? ⟨b0, off + k * 5 + 3, none⟩ = some (.slice As ns cs') ∧ (w6.alloc o).cell? ⟨b0, off + k * 5 + 4, none⟩ = some (.int .i64 tm) ∧ (w6.alloc o).cell? ⟨CB, 0, none⟩ = some (.int .i64 (dt : Int)) from fun o => ⟨(((Below.refl w6.heap.size w6).alloc (Nat.le_refl _) o).cell (p := ⟨b0, _, none⟩) (Nat.lt_of_lt_of_le hb0d hs6)).trans HQ6.out.1, (((Below.refl w6.heap.size w6).alloc (Nat.le_refl _) o).cell (p := ⟨b0, _, none⟩) (Nat.lt_of_lt_of_le hb0d hs6)).trans HQ6.out.2.1, (((Below.refl w6.heap.size w6).alloc (Nat.le_refl _) o).cell (p := ⟨b0, _, none⟩) (Nat.lt_of_lt_of_le hb0d hs6)).trans HQ6.out.2.2.1, (((Below.refl w6.heap.size w6).alloc (Nat.le_refl _) o).cell (p := ⟨b0, _, none⟩) (Nat.lt_of_lt_of_le hb0d hs6)).trans HQ6.out.2.2.2.1, (((Below.refl w6.heap.size w6).alloc (Nat.le_refl _) o).cell (p := ⟨b0, _, none⟩) (Nat.lt_of_lt_of_le hb0d hs6)).trans HQ6.out.2.2.2.2.1, (((Below.refl w6.heap.size w6).alloc (Nat.le_refl _) o).cell (p := ⟨CB, 0, none⟩) (Nat.lt_of_lt_of_le hcbd hs6)).trans HQ6.out.2.2.2.2.2⟩); clear s5 s6 bel6)
            refine hK.out _ _ (HQ6.out) (fun hHeld2 => ?_)
            clear hK K hHeld; have hHeld := hHeld2; clear hHeld2; (try simp only [Act.put, List.getElem_toArray, List.getElem_cons_zero, List.getElem_cons_succ, List.setIfInBounds_toArray, List.set_cons_zero, List.set_cons_succ])
            refine wpAnyH_ready (rs := [9]) (by kernel_rfl) (by simp) ?_
            refine AllReadyH.cons rfl (fun K hK => ?_) AllReadyH.nil
            go_simp
            refine hK.out _ _ (HQ7.out _) (fun hHeld2 => ?_)
            clear hK K hHeld; have hHeld := hHeld2; clear hHeld2; (try simp only [Act.put, List.getElem_toArray, List.getElem_cons_zero, List.getElem_cons_succ, List.setIfInBounds_toArray, List.set_cons_zero, List.set_cons_succ])
            refine wpAnyH_ready (rs := [10]) (by kernel_rfl) (by simp) ?_
            refine AllReadyH.cons rfl (fun K hK => ?_) AllReadyH.nil
            go_simp
            refine hK.out _ _ (HQ7.out _) (fun hHeld2 => ?_)
            clear hK K hHeld; have hHeld := hHeld2; clear hHeld2; (try simp only [Act.put, List.getElem_toArray, List.getElem_cons_zero, List.getElem_cons_succ, List.setIfInBounds_toArray, List.set_cons_zero, List.set_cons_succ])
            refine wpAnyH_done (by kernel_rfl) ?_ _
            rotate_left 1
            go_simp
            refine hK.out _ _ (HQZ.out) (fun hHeld2 => ?_)
            clear hK K hHeld; have hHeld := hHeld2; clear hHeld2; (try simp only [Act.put, List.getElem_toArray, List.getElem_cons_zero, List.getElem_cons_succ, List.setIfInBounds_toArray, List.set_cons_zero, List.set_cons_succ])
            refine wpAnyH_ready (rs := [8]) (by kernel_rfl) (by simp) ?_
            refine AllReadyH.cons rfl (fun K hK => ?_) AllReadyH.nil
            go_simp
            (go_at_call 44; (with_reducible refine KB.out.mono ?_); rintro e w6 ⟨⟨yl, yk, yc, ys, ym⟩, A5, n5, c5, A6, n6, c6, rfl, s5, s6, bel6⟩; simp only [txnV]; dsimp only at s5 s6; have T5 := Lib.hid s5; have T6 := Lib.hid s6; have E6 := Lib.hid bel6; have HX6 := Lib.hid (HZX.out.after bel6); obtain ⟨z0, z1, z2, z3, z4, zz⟩ := HX6.out.c5; have HQ8 := Lib.hid (show ∀ a0 a1 a2 a3 a4 : Value, (((((w6.setCell ⟨wi.heap.size, 0, none⟩ a0).setCell ⟨wi.heap.size, 1, none⟩ a1).setCell ⟨wi.heap.size, 2, none⟩ a2).setCell ⟨wi.heap.size, 3, none⟩ a3).setCell ⟨wi.heap.size, 4, none⟩ a4).cell? ⟨b0, off + k * 5, none⟩ = some (.int .i64 tl) ∧ (((((w6.setCell ⟨wi.heap.size, 0, none⟩ a0).setCell ⟨wi.heap.size, 1, none⟩ a1).setCell ⟨wi.heap.size, 2, none⟩ a2).setCell ⟨wi.heap.size, 3, none⟩ a3).setCell ⟨wi.heap.size, 4, none⟩ a4).cell? ⟨b0, off + k * 5 + 1, none⟩ = some (.int .i64 tk) ∧ (((((w6.setCell ⟨wi.heap.size, 0, none⟩ a0).setCell ⟨wi.heap.size, 1, none⟩ a1).setCell ⟨wi.heap.size, 2, none⟩ a2).setCell ⟨wi.heap.size, 3, none⟩ a3).setCell ⟨wi.heap.size, 4, none⟩ a4).cell? ⟨b0, off + k * 5 + 2, none⟩ = some (.slice At nt ct) ∧ (((((w6.setCell ⟨wi.heap.size, 0, none⟩ a0).setCell ⟨wi.heap.size, 1, none⟩ a1).setCell ⟨wi.heap.size, 2, none⟩ a2).setCell ⟨wi.heap.size, 3, none⟩ a3).setCell ⟨wi.heap.size, 4, none⟩ a4).cell? ⟨b0, off + k * 5 + 3, none⟩ = some (.slice As ns cs') ∧ (((((w6.setCell ⟨wi.heap.size, 0, none⟩ a0).setCell ⟨wi.heap.size, 1, none⟩ a1).setCell ⟨wi.heap.size, 2, none⟩ a2).setCell ⟨wi.heap.size, 3, none⟩ a3).setCell ⟨wi.heap.size, 4, none⟩ a4).cell? ⟨b0, off + k * 5 + 4, none⟩ = some (.int .i64 tm) ∧ (((((w6.setCell ⟨wi.heap.size, 0, none⟩ a0).setCell ⟨wi.heap.size, 1, none⟩ a1).setCell ⟨wi.heap.size, 2, none⟩ a2).setCell ⟨wi.heap.size, 3, none⟩ a3).setCell ⟨wi.heap.size, 4, none⟩ a4).cell? ⟨CB, 0, none⟩ = some (.int .i64 (dt : Int)) from fun a0 a1 a2 a3 a4 => ⟨(cell_set5 (by show b0 ≠ _; omega) _ _ _ _ _).trans ((bel6.cell (p := ⟨b0, _, none⟩) HB0Z.out).trans HQZ.out.1), (cell_set5 (by show b0 ≠ _; omega) _ _ _ _ _).trans ((bel6.cell (p := ⟨b0, _, none⟩) HB0Z.out).trans HQZ.out.2.1), (cell_set5 (by show b0 ≠ _; omega) _ _ _ _ _).trans ((bel6.cell (p := ⟨b0, _, none⟩) HB0Z.out).trans HQZ.out.2.2.1), (cell_set5 (by show b0 ≠ _; omega) _ _ _ _ _).trans ((bel6.cell (p := ⟨b0, _, none⟩) HB0Z.out).trans HQZ.out.2.2.2.1), (cell_set5 (by show b0 ≠ _; omega) _ _ _ _ _).trans ((bel6.cell (p := ⟨b0, _, none⟩) HB0Z.out).trans HQZ.out.2.2.2.2.1), (cell_set5 (by show CB ≠ _; omega) _ _ _ _ _).trans ((bel6.cell (p := ⟨CB, 0, none⟩) HCBZ.out).trans HQZ.out.2.2.2.2.2)⟩); have HQ6 := Lib.hid (show w6.cell? ⟨b0, off + k * 5, none⟩ = some (.int .i64 tl) ∧ w6.cell? ⟨b0, off + k * 5 + 1, none⟩ = some (.int .i64 tk) ∧ w6.cell? ⟨b0, off + k * 5 + 2, none⟩ = some (.slice At nt ct) ∧ w6.cell? ⟨b0, off + k * 5 + 3, none⟩ = some (.slice As ns cs') ∧ w6.cell? ⟨b0, off + k * 5 + 4, none⟩ = some (.int .i64 tm) ∧ w6.cell? ⟨CB, 0, none⟩ = some (.int .i64 (dt : Int)) from ⟨(bel6.cell (p := ⟨b0, _, none⟩) HB0Z.out).trans HQZ.out.1, (bel6.cell (p := ⟨b0, _, none⟩) HB0Z.out).trans HQZ.out.2.1, (bel6.cell (p := ⟨b0, _, none⟩) HB0Z.out).trans HQZ.out.2.2.1, (bel6.cell (p := ⟨b0, _, none⟩) HB0Z.out).trans HQZ.out.2.2.2.1, (bel6.cell (p := ⟨b0, _, none⟩) HB0Z.out).trans HQZ.out.2.2.2.2.1, (bel6.cell (p := ⟨CB, 0, none⟩) HCBZ.out).trans HQZ.out.2.2.2.2.2⟩); clear s5 s6 bel6)
            refine hK.out _ _ (HQ6.out) (fun hHeld2 => ?_)
            clear hK K hHeld; have hHeld := hHeld2; clear hHeld2; (try simp only [Act.put, List.getElem_toArray, List.getElem_cons_zero, List.getElem_cons_succ, List.setIfInBounds_toArray, List.set_cons_zero, List.set_cons_succ])
            refine wpAnyH_ready (rs := [10]) (by kernel_rfl) (by simp) ?_
            refine AllReadyH.cons rfl (fun K hK => ?_) AllReadyH.nil
            go_simp
            refine hK.out _ _ (HQ8.out _ _ _ _ _) (fun hHeld2 => ?_)
            clear hK K hHeld; have hHeld := hHeld2; clear hHeld2; (try simp only [Act.put, List.getElem_toArray, List.getElem_cons_zero, List.getElem_cons_succ, List.setIfInBounds_toArray, List.set_cons_zero, List.set_cons_succ])
            refine wpAnyH_done (by kernel_rfl) ?_ _
          all_goals first
            | (obtain ⟨TB, hTB⟩ : ∃ TB, TB = w6.heap.size := ⟨_, rfl⟩
               obtain ⟨w7, hw7⟩ : ∃ w7, w7 = w6.alloc (.cells #[.int .i64 yl, .int .i64 yk, .slice A5 n5 c5, .slice A6 n6 c6, .int .i64 ym] 68) := ⟨_, rfl⟩
               have AF := Lib.hid (aft_A (wd := wi) (y := ⟨yl, yk, yc, ys, ym⟩) hTB hw7 T5.out T6.out E6.out)
               rw [← hw7, ← hTB]
               clear hTB hw7)
            | (obtain ⟨TB, hTB⟩ : ∃ TB, TB = wi.heap.size := ⟨_, rfl⟩
               obtain ⟨w7, hw7⟩ : ∃ w7, w7 = (((((w6.setCell ⟨TB, 0, none⟩ (.int .i64 yl)).setCell ⟨TB, 1, none⟩ (.int .i64 yk)).setCell ⟨TB, 2, none⟩ (.slice A5 n5 c5)).setCell ⟨TB, 3, none⟩ (.slice A6 n6 c6)).setCell ⟨TB, 4, none⟩ (.int .i64 ym)) := ⟨_, rfl⟩
               have AF := Lib.hid (aft_B (wd := wi) (y := ⟨yl, yk, yc, ys, ym⟩) rfl hTB hw7 (by rw [hTB]; exact HX6.out) T5.out T6.out E6.out)
               rw [← hTB, ← hw7]
               clear hTB hw7)
          all_goals
            obtain ⟨S7, hS7⟩ : ∃ S7 : Nat → Prop, S7 = fun k => Sj k ∨ (wi.heap.size ≤ k ∧ k < w7.heap.size) := ⟨_, rfl⟩
            obtain ⟨U, hU⟩ : ∃ U : Nat → Prop, U = fun k => wi.heap.size ≤ k ∧ k < w7.heap.size := ⟨_, rfl⟩
            have P7 := Lib.hid (show MPair w2 w7 S7 gm g gx gw z z by rw [hS7]; exact PJ.out.below AF.out.bel)
            have hgxi : gx < wi.heap.size := PJ.out.hS _ PJ.out.inX
            have hgwi : gw < wi.heap.size := PJ.out.hS _ PJ.out.inW
            have HU := Lib.hid (show ∀ k, U k → S7 k ∧ k ≠ gx ∧ k ≠ gw by rw [hU, hS7]; exact fun k hk => ⟨.inr hk, by omega, by omega⟩)
            have HTB := Lib.hid (show S7 TB ∧ TB ≠ gx ∧ TB ≠ gw by have h1 := AF.out.ge; have h2 := AF.out.bt.lt; rw [hS7]; exact ⟨.inr ⟨h1, h2⟩, by omega, by omega⟩)
            have L5 := Lib.hid (show IsSl chgRep w7 U A5 n5 yc by rw [hU]; exact AF.out.s1)
            have L6 := Lib.hid (show IsSl strRep w7 U A6 n6 ys by rw [hU]; exact AF.out.s2)
            clear hS7 hU hgxi hgwi
            obtain ⟨t0, t1, t2, t3, t4, tz⟩ := AF.out.bt.c5
            have g4 := P7.out.cellsX.2
            have m0 := P7.out.cellM
            have htb7 : TB < w7.heap.size := AF.out.bt.lt
            have hgx7 : gx < w7.heap.size := P7.out.hS _ P7.out.inX
            have hgm7 : gm < w7.heap.size := P7.out.mux.lt
            have PD := Lib.hid (show MPair w2 w7.drew S7 gm g gx gw z z from P7.out.drewN 1)
            have HSD := Lib.hid (show w7.drew.cell? ⟨TB, 0, none⟩ = some (.int .i64 yl) ∧ w7.drew.cell? ⟨TB, 1, none⟩ = some (.int .i64 yk) ∧ w7.drew.cell? ⟨TB, 2, none⟩ = some (.slice A5 n5 c5) ∧ w7.drew.cell? ⟨TB, 3, none⟩ = some (.slice A6 n6 c6) ∧ w7.drew.cell? ⟨TB, 4, none⟩ = some (.int .i64 ym) ∧ w7.drew.cell? ⟨gm, 0, none⟩ = some (.pointer (some ⟨g, 0, none⟩)) ∧ w7.drew.cell? ⟨gx, 4, none⟩ = some (.pointer (some ⟨gw, 0, none⟩)) from ⟨t0, t1, t2, t3, t4, m0, g4⟩)
            obtain ⟨bw, hbw⟩ : ∃ bw, bw = z.win.waits yk ym := ⟨_, rfl⟩
            have HBW := Lib.hid hbw
            clear hbw
            go_upto_region 15 with fail
            refine wp_region_held_drew (S := (fun w' => w'.cell? ⟨TB, 0, none⟩ = some (.int .i64 yl) ∧ w'.cell? ⟨TB, 1, none⟩ = some (.int .i64 yk) ∧ w'.cell? ⟨TB, 2, none⟩ = some (.slice A5 n5 c5) ∧ w'.cell? ⟨TB, 3, none⟩ = some (.slice A6 n6 c6) ∧ w'.cell? ⟨TB, 4, none⟩ = some (.int .i64 ym) ∧ w'.cell? ⟨gm, 0, none⟩ = some (.pointer (some ⟨g, 0, none⟩)) ∧ w'.cell? ⟨gx, 4, none⟩ = some (.pointer (some ⟨gw, 0, none⟩)))) (by kernel_rfl) (HSD.out) (fun hHeld => ?_)
            (refine wpAnyH_take (i := 0) (v := ?_) rfl (by kernel_rfl) (by kernel_rfl) (by kernel_rfl) (fun _ _ _ h => h) (Or.inl ⟨by rfl, ?_⟩) hHeld ?_; rotate_left 1; focus (intro w hSw; (try dsimp only at hSw); go_simp; try with_reducible rfl)); (try simp only [Act.put, List.getElem_toArray, List.getElem_cons_zero, List.getElem_cons_succ, List.setIfInBounds_toArray, List.set_cons_zero, List.set_cons_succ])
            (refine wpAnyH_take (i := 1) (v := ?_) rfl (by kernel_rfl) (by kernel_rfl) (by kernel_rfl) (fun _ _ _ h => h) (Or.inl ⟨by rfl, ?_⟩) hHeld ?_; rotate_left 1; focus (intro w hSw; (try dsimp only at hSw); go_simp; try with_reducible rfl)); (try simp only [Act.put, List.getElem_toArray, List.getElem_cons_zero, List.getElem_cons_succ, List.setIfInBounds_toArray, List.set_cons_zero, List.set_cons_succ])
            (refine wpAnyH_take (i := 2) (v := ?_) rfl (by kernel_rfl) (by kernel_rfl) (by kernel_rfl) (fun _ _ _ h => h) (Or.inl ⟨by rfl, ?_⟩) hHeld ?_; rotate_left 1; focus (intro w hSw; (try dsimp only at hSw); go_simp; try with_reducible rfl)); (try simp only [Act.put, List.getElem_toArray, List.getElem_cons_zero, List.getElem_cons_succ, List.setIfInBounds_toArray, List.set_cons_zero, List.set_cons_succ])
            (refine wpAnyH_take (i := 3) (v := ?_) rfl (by kernel_rfl) (by kernel_rfl) (by kernel_rfl) (fun _ _ _ h => h) (Or.inl ⟨by rfl, ?_⟩) hHeld ?_; rotate_left 1; focus (intro w hSw; (try dsimp only at hSw); go_simp; try with_reducible rfl)); (try simp only [Act.put, List.getElem_toArray, List.getElem_cons_zero, List.getElem_cons_succ, List.setIfInBounds_toArray, List.set_cons_zero, List.set_cons_succ])
            (refine wpAnyH_take (i := 4) (v := ?_) rfl (by kernel_rfl) (by kernel_rfl) (by kernel_rfl) (fun _ _ _ h => h) (Or.inl ⟨by rfl, ?_⟩) hHeld ?_; rotate_left 1; focus (intro w hSw; (try dsimp only at hSw); go_simp; try with_reducible rfl)); (try simp only [Act.put, List.getElem_toArray, List.getElem_cons_zero, List.getElem_cons_succ, List.setIfInBounds_toArray, List.set_cons_zero, List.set_cons_succ])
            (refine wpAnyH_take (i := 6) (v := ?_) rfl (by kernel_rfl) (by kernel_rfl) (by kernel_rfl) (fun _ _ _ h => h) (Or.inl ⟨by rfl, ?_⟩) hHeld ?_; rotate_left 1; focus (intro w hSw; (try dsimp only at hSw); go_simp; try with_reducible rfl)); (try simp only [Act.put, List.getElem_toArray, List.getElem_cons_zero, List.getElem_cons_succ, List.setIfInBounds_toArray, List.set_cons_zero, List.set_cons_succ])
            (refine wpAnyH_take (i := 7) (v := ?_) rfl (by kernel_rfl) (by kernel_rfl) (by kernel_rfl) (fun _ _ _ h => h) (Or.inl ⟨by rfl, ?_⟩) hHeld ?_; rotate_left 1; focus (intro w hSw; (try dsimp only at hSw); go_simp; try with_reducible rfl)); (try simp only [Act.put, List.getElem_toArray, List.getElem_cons_zero, List.getElem_cons_succ, List.setIfInBounds_toArray, List.set_cons_zero, List.set_cons_succ])
            (refine wpAnyH_take (i := 8) (v := ?_) rfl (by kernel_rfl) (by kernel_rfl) (by kernel_rfl) (fun _ _ _ h => h) (Or.inl ⟨by rfl, ?_⟩) hHeld ?_; rotate_left 1; focus (intro w hSw; (try dsimp only at hSw); go_simp; try with_reducible rfl)); (try simp only [Act.put, List.getElem_toArray, List.getElem_cons_zero, List.getElem_cons_succ, List.setIfInBounds_toArray, List.set_cons_zero, List.set_cons_succ])
            (refine wpAnyH_take (i := 9) (v := ?_) rfl (by kernel_rfl) (by kernel_rfl) (by kernel_rfl) (fun _ _ _ h => h) (Or.inl ⟨by rfl, ?_⟩) hHeld ?_; rotate_left 1; focus (intro w hSw; (try dsimp only at hSw); go_simp; try with_reducible rfl)); (try simp only [Act.put, List.getElem_toArray, List.getElem_cons_zero, List.getElem_cons_succ, List.setIfInBounds_toArray, List.set_cons_zero, List.set_cons_succ])
            (refine wpAnyH_take (i := 10) (v := ?_) rfl (by kernel_rfl) (by kernel_rfl) (by kernel_rfl) (fun _ _ _ h => h) (Or.inl ⟨by rfl, ?_⟩) hHeld ?_; rotate_left 1; focus (intro w hSw; (try dsimp only at hSw); go_simp; try with_reducible rfl)); (try simp only [Act.put, List.getElem_toArray, List.getElem_cons_zero, List.getElem_cons_succ, List.setIfInBounds_toArray, List.set_cons_zero, List.set_cons_succ])
            refine wpAnyH_ready (rs := [5]) (by kernel_rfl) (by simp) ?_
            refine AllReadyH.cons rfl (fun K hK => ?_) AllReadyH.nil
            go_simp
            (go_at_call 45; (with_reducible refine (mp_waits_w PD.out yl yk ym A5 n5 c5 A6 n6 c6).mono ?_); rintro e w8 ⟨rfl, bel8⟩; rw [← HBW.out]; have D8 := Lib.hid (show Below w7.heap.size w7 w8 from below_of_drew bel8); have P8 := Lib.hid (P7.out.below D8.out); have HS8 := Lib.hid (show w8.cell? ⟨TB, 0, none⟩ = some (.int .i64 yl) ∧ w8.cell? ⟨TB, 1, none⟩ = some (.int .i64 yk) ∧ w8.cell? ⟨TB, 2, none⟩ = some (.slice A5 n5 c5) ∧ w8.cell? ⟨TB, 3, none⟩ = some (.slice A6 n6 c6) ∧ w8.cell? ⟨TB, 4, none⟩ = some (.int .i64 ym) ∧ w8.cell? ⟨gm, 0, none⟩ = some (.pointer (some ⟨g, 0, none⟩)) ∧ w8.cell? ⟨gx, 4, none⟩ = some (.pointer (some ⟨gw, 0, none⟩)) from ⟨(D8.out.cell (p := ⟨TB, 0, none⟩) htb7).trans t0, (D8.out.cell (p := ⟨TB, 1, none⟩) htb7).trans t1, (D8.out.cell (p := ⟨TB, 2, none⟩) htb7).trans t2, (D8.out.cell (p := ⟨TB, 3, none⟩) htb7).trans t3, (D8.out.cell (p := ⟨TB, 4, none⟩) htb7).trans t4, (D8.out.cell (p := ⟨gm, 0, none⟩) hgm7).trans m0, (D8.out.cell (p := ⟨gx, 4, none⟩) hgx7).trans g4⟩); clear bel8)
            refine hK.out _ _ (HS8.out) (fun hHeld2 => ?_)
            clear hK K hHeld; have hHeld := hHeld2; clear hHeld2; (try simp only [Act.put, List.getElem_toArray, List.getElem_cons_zero, List.getElem_cons_succ, List.setIfInBounds_toArray, List.set_cons_zero, List.set_cons_succ])
            refine wpAnyH_ready (rs := [11]) (by kernel_rfl) (by simp) ?_
            refine AllReadyH.cons rfl (fun K hK => ?_) AllReadyH.nil
            go_simp
            (go_at_call 46; (with_reducible refine (mp_waits_r P8.out yl yk ym A5 n5 c5 A6 n6 c6).mono ?_); rintro e w9 ⟨rfl, bel9⟩; rw [← HBW.out]; have E9 := Lib.hid (show Below w7.heap.size w7 w9 from D8.out.trans (bel9.mono D8.out.size)); have HS9 := Lib.hid (show w9.cell? ⟨TB, 0, none⟩ = some (.int .i64 yl) ∧ w9.cell? ⟨TB, 1, none⟩ = some (.int .i64 yk) ∧ w9.cell? ⟨TB, 2, none⟩ = some (.slice A5 n5 c5) ∧ w9.cell? ⟨TB, 3, none⟩ = some (.slice A6 n6 c6) ∧ w9.cell? ⟨TB, 4, none⟩ = some (.int .i64 ym) ∧ w9.cell? ⟨gm, 0, none⟩ = some (.pointer (some ⟨g, 0, none⟩)) ∧ w9.cell? ⟨gx, 4, none⟩ = some (.pointer (some ⟨gw, 0, none⟩)) from ⟨(E9.out.cell (p := ⟨TB, 0, none⟩) htb7).trans t0, (E9.out.cell (p := ⟨TB, 1, none⟩) htb7).trans t1, (E9.out.cell (p := ⟨TB, 2, none⟩) htb7).trans t2, (E9.out.cell (p := ⟨TB, 3, none⟩) htb7).trans t3, (E9.out.cell (p := ⟨TB, 4, none⟩) htb7).trans t4, (E9.out.cell (p := ⟨gm, 0, none⟩) hgm7).trans m0, (E9.out.cell (p := ⟨gx, 4, none⟩) hgx7).trans g4⟩); clear bel9)
            refine hK.out _ _ (HS9.out) (fun hHeld2 => ?_)
            clear hK K hHeld; have hHeld := hHeld2; clear hHeld2; (try simp only [Act.put, List.getElem_toArray, List.getElem_cons_zero, List.getElem_cons_succ, List.setIfInBounds_toArray, List.set_cons_zero, List.set_cons_succ])
            (refine wpAnyH_take (i := 12) (v := ?_) rfl (by kernel_rfl) (by kernel_rfl) (by kernel_rfl) (fun _ _ _ h => h) (Or.inl ⟨by rfl, ?_⟩) hHeld ?_; rotate_left 1; focus (intro w hSw; (try dsimp only at hSw); go_simp; try with_reducible rfl)); (try simp only [Act.put, List.getElem_toArray, List.getElem_cons_zero, List.getElem_cons_succ, List.setIfInBounds_toArray, List.set_cons_zero, List.set_cons_succ])
            refine wpAnyH_done (by kernel_rfl) ?_ _
          all_goals
            obtain ⟨S9, hS9⟩ : ∃ S9 : Nat → Prop, S9 = fun k => S7 k ∨ (w7.heap.size ≤ k ∧ k < w9.heap.size) := ⟨_, rfl⟩
            have P9 := Lib.hid (show MPair w2 w9 S9 gm g gx gw z z by rw [hS9]; exact P7.out.below E9.out)
            have HU9 := Lib.hid (show ∀ k, U k → S9 k ∧ k ≠ gx ∧ k ≠ gw by rw [hS9]; exact fun k hk => ⟨.inl (HU.out k hk).1, (HU.out k hk).2⟩)
            have HT9 := Lib.hid (show S9 TB by rw [hS9]; exact .inl HTB.out.1)
            have BT9 := Lib.hid (AF.out.bt.after E9.out)
            have L59 := Lib.hid (show IsSl chgRep w9 U A5 n5 yc from L5.out.keep (fun p hp => E9.out.cell (P7.out.hS _ (HU.out _ hp).1)))
            have L69 := Lib.hid (show IsSl strRep w9 U A6 n6 ys from L6.out.keep (fun p hp => E9.out.cell (P7.out.hS _ (HU.out _ hp).1)))
            clear hS9 t0 t1 t2 t3 t4 tz g4 m0 q0 q1 q2 q3 q4 q5
            obtain ⟨t0, t1, t2, t3, t4, tz⟩ := BT9.out.c5
            obtain ⟨T, hTT⟩ : ∃ T : Txn, T = ⟨yl, yk, yc, ys, ym⟩ := ⟨_, rfl⟩
            have KC := mp_take_w P9.out HZ.out.1 T U (fun k hk => (HU9.out k hk).1) A5 n5 c5 A6 n6 c6 (by rw [hTT]; exact L59.out) (by rw [hTT]; exact L69.out)
            rw [show txnV T A5 n5 c5 A6 n6 c6 = .agg #[.int .i64 yl, .int .i64 yk, .slice A5 n5 c5, .slice A6 n6 c6, .int .i64 ym] by rw [hTT]; rfl] at KC
            have HKC := Lib.hid KC
            have HTT := Lib.hid hTT
            obtain ⟨ev, hev⟩ : ∃ ev, ev = z.takeE T := ⟨_, rfl⟩
            obtain ⟨il, hil⟩ : ∃ il, il = (z.takeI T).lsn := ⟨_, rfl⟩
            have HEV := Lib.hid hev
            have HIL := Lib.hid hil
            clear KC hTT hev hil
            go_upto_region 18 with (first
              | (go_at_call 28; (with_reducible refine HKC.out.mono ?_); rintro e w10 ⟨⟨A7, n7, c7, A8, n8, c8, rfl, s7, s8, p10⟩, r10⟩; rw [← HEV.out, ← HIL.out]; have P10 := Lib.hid p10; have R10 := Lib.hid r10; have T7 := Lib.hid s7; have T8 := Lib.hid s8; clear p10 r10 s7 s8)
              | fail)
            obtain ⟨YB, hYB⟩ : ∃ YB, YB = w10.heap.size := ⟨_, rfl⟩
            obtain ⟨w11, hw11⟩ : ∃ w11, w11 = w10.alloc (.cells #[.int .i64 il, .slice A7 n7 c7, .slice A8 n8 c8] 62) := ⟨_, rfl⟩
            have B11 := Lib.hid (show Below w10.heap.size w10 w11 by rw [hw11]; exact (Below.refl _ _).alloc (Nat.le_refl _) _)
            have BY11 := Lib.hid (show Blk w11 YB [.int .i64 il, .slice A7 n7 c7, .slice A8 n8 c8] by rw [hw11, hYB]; exact Blk.new rfl rfl)
            obtain ⟨S11, hS11⟩ : ∃ S11 : Nat → Prop, S11 = fun k => S9 k ∨ (w10.heap.size ≤ k ∧ k < w11.heap.size) := ⟨_, rfl⟩
            have P11 := Lib.hid (show MPair w2 w11 S11 gm g gx gw (z.takeM T) z by rw [hS11]; exact P10.out.below B11.out)
            have HU11 := Lib.hid (show ∀ k, U k → S11 k ∧ k ≠ gx ∧ k ≠ gw by rw [hS11]; exact fun k hk => ⟨.inl (HU9.out k hk).1, (HU9.out k hk).2⟩)
            have HYB := Lib.hid hYB
            rw [← hw11, ← hYB]
            clear hw11 hYB hS11 t0 t1 t2 t3 t4 tz
            have BT11 := Lib.hid ((BT9.out.rest R10.out HT9.out).after B11.out)
            obtain ⟨t0, t1, t2, t3, t4, tz⟩ := BT11.out.c5
            have L5b := Lib.hid (show IsSl chgRep w11 U A5 n5 yc from (L59.out.rest R10.out (fun k hk => (HU9.out k hk).1)).keep (fun p hp => B11.out.cell (P10.out.hS _ (HU9.out _ hp).1)))
            have L6b := Lib.hid (show IsSl strRep w11 U A6 n6 ys from (L69.out.rest R10.out (fun k hk => (HU9.out k hk).1)).keep (fun p hp => B11.out.cell (P10.out.hS _ (HU9.out _ hp).1)))
            have KD := mp_take_r P11.out HZ.out.1 T U HU11.out A5 n5 c5 A6 n6 c6 (by rw [HTT.out]; exact L5b.out) (by rw [HTT.out]; exact L6b.out)
            rw [show txnV T A5 n5 c5 A6 n6 c6 = .agg #[.int .i64 yl, .int .i64 yk, .slice A5 n5 c5, .slice A6 n6 c6, .int .i64 ym] by rw [HTT.out]; rfl] at KD
            have HKD := Lib.hid KD
            clear KD
            have hyb11 := BY11.out.lt
            go_upto_region 19 with (first
              | (go_at_call 47; (with_reducible refine HKD.out.mono ?_); rintro e w12 ⟨⟨S12, A9, n9, c9, Aa, na, ca, rfl, s9, sa, p12⟩, r12⟩; rw [← HEV.out, ← HIL.out]; have P12 := Lib.hid p12; have R12 := Lib.hid r12; have T9 := Lib.hid s9; have Ta := Lib.hid sa; clear p12 r12 s9 sa)
              | fail)
            obtain ⟨ZB, hZB⟩ : ∃ ZB, ZB = w12.heap.size := ⟨_, rfl⟩
            obtain ⟨w13, hw13⟩ : ∃ w13, w13 = w12.alloc (.cells #[.int .i64 il, .slice A9 n9 c9, .slice Aa na ca] 62) := ⟨_, rfl⟩
            have B13 := Lib.hid (show Below w12.heap.size w12 w13 by rw [hw13]; exact (Below.refl _ _).alloc (Nat.le_refl _) _)
            have BZ13 := Lib.hid (show Blk w13 ZB [.int .i64 il, .slice A9 n9 c9, .slice Aa na ca] by rw [hw13, hZB]; exact Blk.new rfl rfl)
            rw [← hw13, ← hZB]
            clear hw13 hZB t0 t1 t2 t3 t4 tz
            have hx9 : gx < w9.heap.size := P9.out.hS _ P9.out.inX
            have hg9 : gw < w9.heap.size := P9.out.hS _ P9.out.inW
            have hs10 := R10.out.size
            have hs11 := B11.out.size
            have hs12 := R12.out.size
            have hs13 := B13.out.size
            have HYN := Lib.hid (show RS w11 gx gw YB from ⟨hyb11, by have := HYB.out; omega, by have := HYB.out; omega⟩)
            have BY13 := Lib.hid ((BY11.out.rest R12.out HYN.out).after B13.out)
            have K7 := Lib.hid (show IsSl oprRep w13 (· < w13.heap.size) A7 n7 (z.takeI T).ops from (T7.out.keep (fun p hp => (B13.out.cell (by have := hp.2; omega)).trans ((R12.out.cell (show RS w11 gx gw p.block from ⟨by have := hp.2; omega, by have := hp.1; omega, by have := hp.1; omega⟩)).trans (B11.out.cell hp.2)))).weak (fun k hk => by have := hk.2; omega))
            have K8 := Lib.hid (show IsSl noteRep w13 (· < w13.heap.size) A8 n8 (z.takeI T).notes from (T8.out.keep (fun p hp => (B13.out.cell (by have := hp.2; omega)).trans ((R12.out.cell (show RS w11 gx gw p.block from ⟨by have := hp.2; omega, by have := hp.1; omega, by have := hp.1; omega⟩)).trans (B11.out.cell hp.2)))).weak (fun k hk => by have := hk.2; omega))
            have K9 := Lib.hid (show IsSl oprRep w13 (· < w13.heap.size) A9 n9 (z.takeI T).ops from (T9.out.keep (fun p hp => B13.out.cell hp.2)).weak (fun k hk => by have := hk.2; omega))
            have Ka := Lib.hid (show IsSl noteRep w13 (· < w13.heap.size) Aa na (z.takeI T).notes from (Ta.out.keep (fun p hp => B13.out.cell hp.2)).weak (fun k hk => by have := hk.2; omega))
            have HLN := Lib.hid (takeI_len HZ.out.1 T)
            have hn7 : n7 ≤ 281474976710656 := by rw [T7.out.len]; have := HLN.out.1; omega
            have hn8 : n8 ≤ 281474976710656 := by rw [T8.out.len]; have := HLN.out.2; omega
            clear hx9 hg9 hs10 hs11 hs12 hs13
            obtain ⟨y0, y1, y2, yz⟩ := BY13.out.c3
            obtain ⟨z0, z1, z2, zz⟩ := BZ13.out.c3
            have P13 := Lib.hid (P12.out.below B13.out)
            have HFT := Lib.hid (HZ.out.take T)
            have HFT1 := Lib.hid (show (z.takeM T).Fine from HFT.out.1)
            go_wp2_with (first
              | (go_at_call 48; (with_reducible refine (item_any il A7 A8 A9 Aa n7 n8 c7 c8 n9 na c9 ca (z.takeI T).ops (z.takeI T).notes w13 K7.out K9.out K8.out Ka.out hn7 hn8).mono ?_); rintro e w14 ⟨rfl, bel14⟩; have P14 := Lib.hid (P13.out.below bel14); clear bel14)
              | (go_at_call 42; (with_reducible refine (mp_alike P14.out HFT1.out).mono ?_); rintro e w15 ⟨rfl, bel15⟩; have P15 := Lib.hid (P14.out.below bel15); clear bel15)
              | fail)
            go_roundw
            case rel => exact ⟨k + 1, _, z.takeM T, by go_num, by omega, P15.out, HFT.out⟩
            case measure => simp [intOf]; omega
end Go.Proofs.Ythhpddiicnjmmaa
