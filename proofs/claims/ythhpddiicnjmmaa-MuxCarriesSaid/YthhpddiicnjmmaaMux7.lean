/- Contract of the mux: high. -/
import Derived.Test.YthhpddiicnjmmaaMuxC
import Derived.Deep.RegionHeld3
import Derived.Deep.Cut
set_option linter.unusedVariables false
set_option linter.unusedSimpArgs false
set_option maxRecDepth 100000
namespace Go.Proofs.Ythhpddiicnjmmaa
open Go.RowKit

theorem cell_set3 {w : World} {b : Nat} {p : Addr} (h : p.block ≠ b) (a0 a1 a2 : Value) : (((w.setCell ⟨b, 0, none⟩ a0).setCell ⟨b, 1, none⟩ a1).setCell ⟨b, 2, none⟩ a2).cell? p = w.cell? p := by
  have h1 : ∀ (w : World) (j : Nat) (u : Value), (w.setCell ⟨b, j, none⟩ u).cell? p = w.cell? p := fun w j u => World.cell?_setCell_other _ _ _ _ (fun e => h (by rw [← e]))
  rw [h1, h1, h1]

/-- Behind the window's High: the item lies in block XB. -/
structure Hi (W w3 : World) (S1 : Nat → Prop) (g XB : Nat) (y : Win) (l : Int) (A5 : Option Addr) (n5 c5 : Nat) (A6 : Option Addr) (n6 c6 : Nat) (ops : List Opr) (notes : List Note) : Prop where
  bx : Blk w3 XB [.int .i64 l, .slice A5 n5 c5, .slice A6 n6 c6]
  own : WinOwn w3 (fun k => S1 k ∨ k = XB) g y
  rest : Rest S1 W w3
  ge : W.heap.size ≤ XB
  s5 : IsSl oprRep w3 (fun k => (W.heap.size ≤ k ∧ k < w3.heap.size) ∧ k ≠ XB) A5 n5 ops
  s6 : IsSl noteRep w3 (fun k => (W.heap.size ≤ k ∧ k < w3.heap.size) ∧ k ≠ XB) A6 n6 notes
theorem hi_A {W w2 w3 : World} {S1 : Nat → Prop} {g XB : Nat} {y : Win} {l : Int} {A5 : Option Addr} {n5 c5 : Nat} {A6 : Option Addr} {n6 c6 : Nat} {ops : List Opr} {notes : List Note} {t : TypeId} (hXB : XB = w2.heap.size) (hw3 : w3 = w2.alloc (.cells #[.int .i64 l, .slice A5 n5 c5, .slice A6 n6 c6] t)) (hS : ∀ k, S1 k → k < W.heap.size) (o : WinOwn w2 S1 g y) (r : Rest S1 W.drew w2)
    (s5 : IsSl oprRep w2 (fun k => W.drew.heap.size ≤ k ∧ k < w2.heap.size) A5 n5 ops) (s6 : IsSl noteRep w2 (fun k => W.drew.heap.size ≤ k ∧ k < w2.heap.size) A6 n6 notes) : Hi W w3 S1 g XB y l A5 n5 c5 A6 n6 c6 ops notes := by
  have hb : Below w2.heap.size w2 w3 := by rw [hw3]; exact (Below.refl _ _).alloc (Nat.le_refl _) _
  have hs : w3.heap.size = w2.heap.size + 1 := by rw [hw3]; simp
  have r' : Rest S1 W w2 := ⟨r.os, r.tape, r.output, r.size, r.block⟩
  refine ⟨by rw [hw3, hXB]; exact Blk.new rfl rfl, (o.sets (S' := fun k => S1 k ∨ k = XB) ?_ ?_).below hb, r'.new hS hb, by rw [hXB]; exact r'.size, ?_, ?_⟩
  · rintro (h | h)
    · exact o.ng h
    · have := o.lt; omega
  · rintro k (h | h)
    · exact .inl h
    · exact .inr (by omega)
  · exact (s5.keep (fun p hp => hb.cell hp.2)).weak (fun k hk => ⟨⟨hk.1, by omega⟩, by omega⟩)
  · exact (s6.keep (fun p hp => hb.cell hp.2)).weak (fun k hk => ⟨⟨hk.1, by omega⟩, by omega⟩)
theorem hi_B {W V w2 w3 : World} {S1 : Nat → Prop} {g XB : Nat} {y : Win} {l : Int} {A5 : Option Addr} {n5 c5 : Nat} {A6 : Option Addr} {n6 c6 : Nat} {ops : List Opr} {notes : List Note} {o0 : Obj} (hV : V = (W.alloc o0).drew) (hXB : XB = W.heap.size) (hw3 : w3 = ((w2.setCell ⟨XB, 0, none⟩ (.int .i64 l)).setCell ⟨XB, 1, none⟩ (.slice A5 n5 c5)).setCell ⟨XB, 2, none⟩ (.slice A6 n6 c6)) (hS : ∀ k, S1 k → k < W.heap.size) (o : WinOwn w2 (fun k => S1 k ∨ k = XB) g y) (r : Rest (fun k => S1 k ∨ k = XB) V w2) (hx : Blk w2 XB [.int .i64 0, .slice none 0 0, .slice none 0 0])
    (s5 : IsSl oprRep w2 (fun k => V.heap.size ≤ k ∧ k < w2.heap.size) A5 n5 ops) (s6 : IsSl noteRep w2 (fun k => V.heap.size ≤ k ∧ k < w2.heap.size) A6 n6 notes) : Hi W w3 S1 g XB y l A5 n5 c5 A6 n6 c6 ops notes := by
  have hVs : V.heap.size = W.heap.size + 1 := by rw [hV]; simp
  have hb : Below W.heap.size W V := by rw [hV]; exact below_drewN ((Below.refl _ _).alloc (Nat.le_refl _) _) 1
  have hs : w3.heap.size = w2.heap.size := by rw [hw3]; simp
  have nX : ¬ S1 XB := fun h => by have := hS XB h; omega
  have r' : Rest S1 W w2 := ((Rest.refl S1 W).below hS hb).trans (r.less (fun k hk => .inl hk))
  have g3 : ∀ p : Addr, p.block ≠ XB → w3.cell? p = w2.cell? p := fun p hp => by rw [hw3]; exact cell_set3 hp _ _ _
  refine ⟨by rw [hw3]; exact ((hx.put (j := 0) (by simp) _ rfl).put (j := 1) (by simp) _ rfl).put (j := 2) (by simp) _ rfl, ?_, by rw [hw3]; exact ((r'.set nX _ _).set nX _ _).set nX _ _, by omega, ?_, ?_⟩
  · rw [hw3]
    have e : ∀ k : Nat, some (⟨XB, 0, none⟩ : Addr).block = some k → S1 k ∨ k = XB := fun k hk => by injection hk with hk; exact .inr hk.symm
    exact ((o.grown (grown_setB _ ⟨XB, 0, none⟩ _) e).grown (grown_setB _ ⟨XB, 1, none⟩ _) e).grown (grown_setB _ ⟨XB, 2, none⟩ _) e
  · exact (s5.keep (fun p hp => g3 p (by have := hp.1; omega))).weak (fun k hk => ⟨⟨by omega, by omega⟩, by omega⟩)
  · exact (s6.keep (fun p hp => g3 p (by have := hp.1; omega))).weak (fun k hk => ⟨⟨by omega, by omega⟩, by omega⟩)
/-- The result's three cells are stored. -/
theorem MuxAt.out3 {w4 : World} {S S' T : Nat → Prop} {gm g RB : Nat} {x : Mx} {A : Option Addr} {c : Nat} (h : MuxAt w4 S' T gm g x A c) (hR : S' RB) (hSS : ∀ k, S k → S' k) (a0 a1 a2 : Value) : MuxOwn (((w4.setCell ⟨RB, 0, none⟩ a0).setCell ⟨RB, 1, none⟩ a1).setCell ⟨RB, 2, none⟩ a2) S gm g x :=
  ((((show MuxOwn w4 S' gm g x from ⟨T, A, c, h⟩).set hR 0 a0).set hR 1 a1).set hR 2 a2).sets (fun k hk => .inl (hSS k hk))
theorem Rest.set3 {S : Nat → Prop} {a b : World} (h : Rest S a b) {d : Nat} (hd : ¬ S d) (a0 a1 a2 : Value) : Rest S a (((b.setCell ⟨d, 0, none⟩ a0).setCell ⟨d, 1, none⟩ a1).setCell ⟨d, 2, none⟩ a2) := ((h.set hd 0 a0).set hd 1 a1).set hd 2 a2

theorem MuxAt.withX {w3 : World} {S' T : Nat → Prop} {gm g XB : Nat} {y : Mx} {A : Option Addr} {c : Nat} (h : MuxAt w3 S' T gm g y A c) (own : WinOwn w3 (fun k => (S' k ∨ T k ∨ k = gm) ∨ k = XB) g y.win) (hX : gm ≠ XB) (hT : ∀ k, T k → k ≠ XB) : MuxOwn w3 (fun k => S' k ∨ k = XB) gm g y :=
  ⟨T, A, c, h.blk, h.reqs, h.c1, h.c2, own.less (fun k hk => by rcases hk with (h1 | h1) | h1 | h1; exact .inl (.inl h1); exact .inr h1; exact .inl (.inr (.inl h1)); exact .inl (.inr (.inr h1))), h.hT, h.nT, fun hk => hk.elim h.nS hX, fun k hk hs => hs.elim (h.dT k hk) (hT k hk)⟩
theorem IsSl.outs {α : Type} {R : Rep α} {w W w3 W9 : World} {XB : Nat} {A : Option Addr} {n : Nat} {l : List α} (h : IsSl R w3 (fun k => (W.heap.size ≤ k ∧ k < w3.heap.size) ∧ k ≠ XB) A n l) (hw : w.heap.size ≤ W.heap.size) (h9 : w3.heap.size ≤ W9.heap.size) (hc : ∀ p : Addr, W.heap.size ≤ p.block → p.block < w3.heap.size → p.block ≠ XB → W9.cell? p = w3.cell? p) : IsSl R W9 (fun k => w.heap.size ≤ k ∧ k < W9.heap.size) A n l :=
  (h.keep (fun p hp => hc p hp.1.1 hp.1.2 hp.2)).weak (fun k hk => ⟨Nat.le_trans hw hk.1.1, Nat.lt_of_lt_of_le hk.1.2 h9⟩)

set_option maxHeartbeats 16000000 in
theorem muxHigh_any (S : Nat → Prop) (gm g : Nat) (x : Mx) (w : World) (hS : ∀ k, S k → k < w.heap.size) (h : MuxOwn w S gm g x) (hf : x.Fine) (t : Txn) (A : Option Addr) (n c : Nat) (A2 : Option Addr) (n2 c2 : Nat) :
    Calls Try.prog 79 #[.pointer (some ⟨gm, 0, none⟩), txnV t A n c A2 n2 c2] w (ItmPost w S gm g (x.highI t) (x.highM t)) := by
  unfold txnV
  obtain ⟨tl, tk, tch, tsg, tm⟩ := t
  dsimp only
  have HS := Lib.hid hS
  obtain ⟨TB, hTB⟩ : ∃ TB, TB = w.heap.size := ⟨_, rfl⟩
  obtain ⟨RB, hRB⟩ : ∃ RB, RB = w.heap.size + 1 := ⟨_, rfl⟩
  obtain ⟨W, hW⟩ : ∃ W, W = (w.alloc (.cells #[.int .i64 tl, .int .i64 tk, .slice A n c, .slice A2 n2 c2, .int .i64 tm] 68)).alloc (.cells #[.int .i64 0, .slice none 0 0, .slice none 0 0] 62) := ⟨_, rfl⟩
  have hb : Below w.heap.size w W := by rw [hW]; exact ((Below.refl _ _).alloc (Nat.le_refl _) _).alloc (by simp) _
  have hWs : W.heap.size = w.heap.size + 2 := by rw [hW]; simp
  have BT := Lib.hid (show Blk W TB [.int .i64 tl, .int .i64 tk, .slice A n c, .slice A2 n2 c2, .int .i64 tm] by rw [hW, hTB]; exact (Blk.new rfl rfl).alloc _)
  have BR := Lib.hid (show Blk W RB [.int .i64 0, .slice none 0 0, .slice none 0 0] by rw [hW, hRB]; exact Blk.new rfl (by simp))
  obtain ⟨S', hS'⟩ : ∃ S' : Nat → Prop, S' = fun k => S k ∨ (w.heap.size ≤ k ∧ k < W.heap.size) := ⟨_, rfl⟩
  have hSS : ∀ k, S k → S' k := by rw [hS']; exact fun k hk => .inl hk
  have hST : S' TB := by rw [hS']; exact .inr (by omega)
  have hSR : S' RB := by rw [hS']; exact .inr (by omega)
  have hSlt : ∀ k, S' k → k < W.heap.size := by rw [hS']; exact fun k hk => hk.elim (fun h => by have := hS k h; omega) (fun h => h.2)
  have hM : MuxOwn W S' gm g x := by rw [hS']; exact h.step hb
  obtain ⟨T, Am, cm, hm⟩ := hM
  obtain ⟨g0, g1, g2, g3, g4, gz⟩ := hm.blk.c5
  have HM := Lib.hid hm
  have HW := Lib.hid hW
  have H1 := Lib.hid hTB
  have H2 := Lib.hid hRB
  have HB := Lib.hid hb
  have HSS := Lib.hid hSS
  have HST := Lib.hid hST
  have HSR := Lib.hid hSR
  obtain ⟨S1, hS1⟩ : ∃ S1 : Nat → Prop, S1 = fun k => S' k ∨ T k ∨ k = gm := ⟨_, rfl⟩
  have HS1 := Lib.hid (show ∀ k, S1 k → k < W.drew.heap.size by rw [hS1]; intro k hk; rcases hk with h | h | rfl; exact hSlt k h; exact hm.hT k h; exact hm.blk.lt)
  have HWN := Lib.hid (show WinOwn W.drew S1 g x.win by rw [hS1]; exact hm.win.drew)
  have HE1 := Lib.hid hS1
  have hg1 : S1 gm := by rw [hS1]; exact .inr (.inr rfl)
  have ht1 : S1 TB := by rw [hS1]; exact .inl hST
  have hr1 : S1 RB := by rw [hS1]; exact .inl hSR
  have hs1 : ∀ k, S' k → S1 k := by rw [hS1]; exact fun k hk => .inl hk
  have HS1S := Lib.hid hs1
  have hrl : x.win.rows.length ≤ 100000 := by have := hf.win.rows; have := hf.win.n2; omega
  have HFI := Lib.hid hf.win.id
  have HFT := Lib.hid hf.win.table
  have HFC := Lib.hid hf.win.cursor
  have HFM := Lib.hid (may_short hf.may)
  obtain ⟨t0, t1, t2, t3, t4, tz⟩ := BT.out.c5
  have HWs := Lib.hid hWs
  have hgW := hm.blk.lt
  have hTW := BT.out.lt
  have hne1 : gm ≠ W.heap.size := by omega
  have hne2 : TB ≠ W.heap.size := by omega
  clear hWs hW hTB hRB hb hS hS' h hm hf hSS hST hSR hSlt hS1 hs1
  have HK0 := Lib.hid (show W.drew.cell? ⟨gm, 0, none⟩ = some (.pointer (some ⟨g, 0, none⟩)) ∧ W.drew.cell? ⟨TB, 4, none⟩ = some (.int .i64 tm) ∧ W.drew.cell? ⟨TB, 0, none⟩ = some (.int .i64 tl) from ⟨g0, t4, t0⟩)
  have HKV := Lib.hid (show ((W.alloc (.cells #[.int .i64 0, .slice none 0 0, .slice none 0 0] 62)).drew).cell? ⟨gm, 0, none⟩ = some (.pointer (some ⟨g, 0, none⟩)) ∧ ((W.alloc (.cells #[.int .i64 0, .slice none 0 0, .slice none 0 0] 62)).drew).cell? ⟨TB, 4, none⟩ = some (.int .i64 tm) ∧ ((W.alloc (.cells #[.int .i64 0, .slice none 0 0, .slice none 0 0] 62)).drew).cell? ⟨TB, 0, none⟩ = some (.int .i64 tl) from ⟨(((Below.refl W.heap.size W).alloc (Nat.le_refl _) _).cell (p := ⟨gm, 0, none⟩) hgW).trans g0, (((Below.refl W.heap.size W).alloc (Nat.le_refl _) _).cell (p := ⟨TB, 4, none⟩) hTW).trans t4, (((Below.refl W.heap.size W).alloc (Nat.le_refl _) _).cell (p := ⟨TB, 0, none⟩) hTW).trans t0⟩)
  have HSV := Lib.hid (show ∀ k, (S1 k ∨ k = W.heap.size) → k < ((W.alloc (.cells #[.int .i64 0, .slice none 0 0, .slice none 0 0] 62)).drew).heap.size from fun k hk => by have := HS1.out k; have e : ((W.alloc (.cells #[.int .i64 0, .slice none 0 0, .slice none 0 0] 62)).drew).heap.size = W.heap.size + 1 := (by simp); rw [e]; rcases hk with h | h; exact Nat.lt_succ_of_lt (HS1.out k h); omega)
  have HWV := Lib.hid (show WinOwn ((W.alloc (.cells #[.int .i64 0, .slice none 0 0, .slice none 0 0] 62)).drew) (fun k => S1 k ∨ k = W.heap.size) g x.win from ((HWN.out.sets (S' := fun k => S1 k ∨ k = W.heap.size) (fun h => h.elim HWN.out.ng (fun e => by have := HWN.out.lt; rw [e] at this; exact Nat.lt_irrefl _ this)) (fun k hk => hk.elim .inl (fun e => .inr (by rw [e]; exact Nat.le_refl _)))).below (show Below W.drew.heap.size W.drew ((W.alloc (.cells #[.int .i64 0, .slice none 0 0, .slice none 0 0] 62)).drew) from below_drewN ((Below.refl _ _).alloc (Nat.le_refl _) _) 0)))
  have HXV := Lib.hid (show Blk ((W.alloc (.cells #[.int .i64 0, .slice none 0 0, .slice none 0 0] 62)).drew) W.heap.size [.int .i64 0, .slice none 0 0, .slice none 0 0] from (Blk.new rfl rfl).drew)
  cases hok : x.win.highOk tm tl with
  | false =>
    have HOK := Lib.hid hok
    have HHI := Lib.hid (show x.highI ⟨tl, tk, tch, tsg, tm⟩ = ⟨tl, [], []⟩ from if_neg (by rw [hok]; simp))
    have HHM := Lib.hid (show x.highM ⟨tl, tk, tch, tsg, tm⟩ = x.setWin (x.win.told tm tl) by unfold Mx.highM Mx.highO; dsimp only; rw [if_neg (by rw [hok]; simp)])
    clear hok
    go_enter Try.func79, Try.ntmps79
    go_wp2_with fail
    rw [← HW.out, ← H2.out, ← H1.out]
    go_region_held3 (fun w' => w'.cell? ⟨gm, 0, none⟩ = some (.pointer (some ⟨g, 0, none⟩)) ∧ w'.cell? ⟨TB, 4, none⟩ = some (.int .i64 tm) ∧ w'.cell? ⟨TB, 0, none⟩ = some (.int .i64 tl)) (first | exact HK0.out | exact HKV.out | exact HK2.out | exact HK3.out _ | exact HK4.out _ _ _ | fail)
      (first
        | (go_at_call 135; (with_reducible refine (winhigh_any g S1 x.win tm tl W.drew HS1.out HWN.out hrl HFI.out HFT.out HFC.out).mono ?_); rintro e w2 ⟨A5, n5, c5, A6, n6, c6, rfl, s5, s6, o2, r2⟩; rw [HOK.out]; have O2 := Lib.hid o2; have R2 := Lib.hid r2; have T5 := Lib.hid s5; have T6 := Lib.hid s6; have HK2 := Lib.hid (show w2.cell? ⟨gm, 0, none⟩ = some (.pointer (some ⟨g, 0, none⟩)) ∧ w2.cell? ⟨TB, 4, none⟩ = some (.int .i64 tm) ∧ w2.cell? ⟨TB, 0, none⟩ = some (.int .i64 tl) from ⟨(r2.cell (p := ⟨gm, 0, none⟩) hg1).trans HK0.out.1, (r2.cell (p := ⟨TB, 4, none⟩) ht1).trans HK0.out.2.1, (r2.cell (p := ⟨TB, 0, none⟩) ht1).trans HK0.out.2.2⟩); have hs2 := r2.size; have HK3 := Lib.hid (show ∀ o, (w2.alloc o).cell? ⟨gm, 0, none⟩ = some (.pointer (some ⟨g, 0, none⟩)) ∧ (w2.alloc o).cell? ⟨TB, 4, none⟩ = some (.int .i64 tm) ∧ (w2.alloc o).cell? ⟨TB, 0, none⟩ = some (.int .i64 tl) from fun o => ⟨(((Below.refl w2.heap.size w2).alloc (Nat.le_refl _) o).cell (p := ⟨gm, 0, none⟩) (Nat.lt_of_lt_of_le hgW hs2)).trans HK2.out.1, (((Below.refl w2.heap.size w2).alloc (Nat.le_refl _) o).cell (p := ⟨TB, 4, none⟩) (Nat.lt_of_lt_of_le hTW hs2)).trans HK2.out.2.1, (((Below.refl w2.heap.size w2).alloc (Nat.le_refl _) o).cell (p := ⟨TB, 0, none⟩) (Nat.lt_of_lt_of_le hTW hs2)).trans HK2.out.2.2⟩); clear s5 s6 o2 r2)
        | (go_at_call 135; (with_reducible refine (winhigh_any g (fun k => S1 k ∨ k = W.heap.size) x.win tm tl (W.alloc (.cells #[.int .i64 0, .slice none 0 0, .slice none 0 0] 62)).drew HSV.out HWV.out hrl HFI.out HFT.out HFC.out).mono ?_); rintro e w2 ⟨A5, n5, c5, A6, n6, c6, rfl, s5, s6, o2, r2⟩; rw [HOK.out]; have O2 := Lib.hid o2; have R2 := Lib.hid r2; have T5 := Lib.hid s5; have T6 := Lib.hid s6; have HK2 := Lib.hid (show w2.cell? ⟨gm, 0, none⟩ = some (.pointer (some ⟨g, 0, none⟩)) ∧ w2.cell? ⟨TB, 4, none⟩ = some (.int .i64 tm) ∧ w2.cell? ⟨TB, 0, none⟩ = some (.int .i64 tl) from ⟨(r2.cell (p := ⟨gm, 0, none⟩) (.inl hg1)).trans HKV.out.1, (r2.cell (p := ⟨TB, 4, none⟩) (.inl ht1)).trans HKV.out.2.1, (r2.cell (p := ⟨TB, 0, none⟩) (.inl ht1)).trans HKV.out.2.2⟩); have hs2 := r2.size; have HXW := Lib.hid (HXV.out.rest r2 (.inr rfl)); obtain ⟨q0, q1, q2, qz⟩ := HXW.out.c3; have HK4 := Lib.hid (show ∀ a b c, (((w2.setCell ⟨W.heap.size, 0, none⟩ a).setCell ⟨W.heap.size, 1, none⟩ b).setCell ⟨W.heap.size, 2, none⟩ c).cell? ⟨gm, 0, none⟩ = some (.pointer (some ⟨g, 0, none⟩)) ∧ (((w2.setCell ⟨W.heap.size, 0, none⟩ a).setCell ⟨W.heap.size, 1, none⟩ b).setCell ⟨W.heap.size, 2, none⟩ c).cell? ⟨TB, 4, none⟩ = some (.int .i64 tm) ∧ (((w2.setCell ⟨W.heap.size, 0, none⟩ a).setCell ⟨W.heap.size, 1, none⟩ b).setCell ⟨W.heap.size, 2, none⟩ c).cell? ⟨TB, 0, none⟩ = some (.int .i64 tl) from fun a b c => ⟨(cell_set3 (p := ⟨gm, 0, none⟩) hne1 a b c).trans HK2.out.1, (cell_set3 (p := ⟨TB, 4, none⟩) hne2 a b c).trans HK2.out.2.1, (cell_set3 (p := ⟨TB, 0, none⟩) hne2 a b c).trans HK2.out.2.2⟩); clear s5 s6 o2 r2)
        | fail)
    all_goals first
      | (obtain ⟨XB, hXB⟩ : ∃ XB, XB = w2.heap.size := ⟨_, rfl⟩
         obtain ⟨w3, hw3⟩ : ∃ w3, w3 = w2.alloc (.cells #[.int .i64 (x.win.tell tm tl).lsn, .slice A5 n5 c5, .slice A6 n6 c6] 62) := ⟨_, rfl⟩
         have HI := Lib.hid (hi_A (W := W) hXB hw3 HS1.out O2.out R2.out T5.out T6.out)
         rw [← hw3, ← hXB]
         clear hXB hw3)
      | (obtain ⟨XB, hXB⟩ : ∃ XB, XB = W.heap.size := ⟨_, rfl⟩
         obtain ⟨w3, hw3⟩ : ∃ w3, w3 = (((w2.setCell ⟨XB, 0, none⟩ (.int .i64 (x.win.tell tm tl).lsn)).setCell ⟨XB, 1, none⟩ (.slice A5 n5 c5)).setCell ⟨XB, 2, none⟩ (.slice A6 n6 c6)) := ⟨_, rfl⟩
         have HI := Lib.hid (hi_B (W := W) (V := (W.alloc (.cells #[.int .i64 0, .slice none 0 0, .slice none 0 0] 62)).drew) rfl hXB hw3 HS1.out (by rw [hXB]; exact O2.out) (by rw [hXB]; exact R2.out) (by rw [hXB]; exact HXW.out) T5.out T6.out)
         rw [← hXB, ← hw3]
         clear hXB hw3)
    all_goals
      have BT3 := Lib.hid (BT.out.rest HI.out.rest ht1)
      have BR3 := Lib.hid (BR.out.rest HI.out.rest hr1)
      have HMA := Lib.hid (HM.out.newWin (z := x.win.told tm tl) (by rw [← HE1.out]; exact HI.out.own.less (fun k hk => .inl hk)) (by rw [← HE1.out]; exact HI.out.rest))
      have HRS := Lib.hid (show Rest S w w3 from ((Rest.refl S w).below HS.out HB.out).trans (HI.out.rest.less (fun k hk => HS1S.out k (HSS.out k hk))))
      have nSR : ¬ S RB := fun hs => by have := HS.out RB hs; have := H2.out; omega
      clear t0 t1 t2 t3 t4 tz g0 g1 g2 g3 g4 gz
      obtain ⟨t0, t1, t2, t3, t4, tz⟩ := BT3.out.c5
      obtain ⟨r0, r1, r2, rz⟩ := BR3.out.c3
      go_wp2
      obtain ⟨W9, hW9⟩ : ∃ W9, W9 = (((w3.setCell ⟨RB, 0, none⟩ (.int .i64 tl)).setCell ⟨RB, 1, none⟩ (.slice none 0 0)).setCell ⟨RB, 2, none⟩ (.slice none 0 0)) := ⟨_, rfl⟩
      have BR9 := Lib.hid (show Blk W9 RB [.int .i64 tl, .slice none 0 0, .slice none 0 0] by rw [hW9]; exact ((BR3.out.put (j := 0) (by simp) _ rfl).put (j := 1) (by simp) _ rfl).put (j := 2) (by simp) _ rfl)
      have SM := (show MuxOwn W9 S gm g (x.setWin (x.win.told tm tl)) by rw [hW9]; exact HMA.out.out3 HSR.out HSS.out _ _ _)
      have SR := (show Rest S w W9 by rw [hW9]; exact HRS.out.set3 nSR _ _ _)
      rw [← hW9]
      clear hW9 r0 r1 r2 rz
      obtain ⟨r0, r1, r2, rz⟩ := BR9.out.c3
      refine bodyPost_ret (by simp [results, Try.results79, go_sem, r0, r1, r2]; try rfl) rfl ?_
      unfold ItmPost
      rw [HHI.out, HHM.out]
      exact ⟨none, 0, 0, none, 0, 0, rfl, IsSl.nil, IsSl.nil, SM, SR⟩
  | true =>
    have HOK := Lib.hid hok
    have HTE := Lib.hid (show x.win.tell tm tl = ⟨tl, x.win.rows.map (opOf tl x.win.table), [⟨2, x.win.id, 0, 0, 0, x.win.cursor, x.win.last⟩]⟩ from if_pos hok)
    have HTL := Lib.hid (show (x.win.tell tm tl).lsn = tl by rw [HTE.out])
    have HTN := Lib.hid (show (x.win.tell tm tl).notes = [⟨2, x.win.id, 0, 0, 0, x.win.cursor, x.win.last⟩] by rw [HTE.out])
    have HHO := Lib.hid (show x.highO ⟨tl, tk, tch, tsg, tm⟩ = chunkO x.reqs x.win.id x.win.cursor x.win.last from if_pos hok)
    have HHI := Lib.hid (show x.highI ⟨tl, tk, tch, tsg, tm⟩ = (match x.highO ⟨tl, tk, tch, tsg, tm⟩ with | some _ => x.win.tell tm tl | none => ⟨tl, (x.win.tell tm tl).ops, []⟩) from if_pos hok)
    have HHM := Lib.hid (show x.highM ⟨tl, tk, tch, tsg, tm⟩ = (match x.highO ⟨tl, tk, tch, tsg, tm⟩ with | some l => x.setReqs l | none => x).setWin (x.win.told tm tl) from rfl)
    clear hok
    obtain ⟨o, ho⟩ : ∃ o, o = chunkO x.reqs x.win.id x.win.cursor x.win.last := ⟨_, rfl⟩
    rw [← ho] at HHO
    rw [HHO.out] at HHI HHM
    have HOO := Lib.hid ho
    clear ho
    cases o with
    | none =>
      go_enter Try.func79, Try.ntmps79
      go_wp2_with fail
      rw [← HW.out, ← H2.out, ← H1.out]
      go_region_held3 (fun w' => w'.cell? ⟨gm, 0, none⟩ = some (.pointer (some ⟨g, 0, none⟩)) ∧ w'.cell? ⟨TB, 4, none⟩ = some (.int .i64 tm) ∧ w'.cell? ⟨TB, 0, none⟩ = some (.int .i64 tl)) (first | exact HK0.out | exact HKV.out | exact HK2.out | exact HK3.out _ | exact HK4.out _ _ _ | fail)
        (first
          | (go_at_call 135; (with_reducible refine (winhigh_any g S1 x.win tm tl W.drew HS1.out HWN.out hrl HFI.out HFT.out HFC.out).mono ?_); rintro e w2 ⟨A5, n5, c5, A6, n6, c6, rfl, s5, s6, o2, r2⟩; rw [HOK.out, HTL.out]; rw [HTN.out] at s6; have O2 := Lib.hid o2; have R2 := Lib.hid r2; have T5 := Lib.hid s5; have T6 := Lib.hid s6; have HK2 := Lib.hid (show w2.cell? ⟨gm, 0, none⟩ = some (.pointer (some ⟨g, 0, none⟩)) ∧ w2.cell? ⟨TB, 4, none⟩ = some (.int .i64 tm) ∧ w2.cell? ⟨TB, 0, none⟩ = some (.int .i64 tl) from ⟨(r2.cell (p := ⟨gm, 0, none⟩) hg1).trans HK0.out.1, (r2.cell (p := ⟨TB, 4, none⟩) ht1).trans HK0.out.2.1, (r2.cell (p := ⟨TB, 0, none⟩) ht1).trans HK0.out.2.2⟩); have hs2 := r2.size; have HK3 := Lib.hid (show ∀ o, (w2.alloc o).cell? ⟨gm, 0, none⟩ = some (.pointer (some ⟨g, 0, none⟩)) ∧ (w2.alloc o).cell? ⟨TB, 4, none⟩ = some (.int .i64 tm) ∧ (w2.alloc o).cell? ⟨TB, 0, none⟩ = some (.int .i64 tl) from fun o => ⟨(((Below.refl w2.heap.size w2).alloc (Nat.le_refl _) o).cell (p := ⟨gm, 0, none⟩) (Nat.lt_of_lt_of_le hgW hs2)).trans HK2.out.1, (((Below.refl w2.heap.size w2).alloc (Nat.le_refl _) o).cell (p := ⟨TB, 4, none⟩) (Nat.lt_of_lt_of_le hTW hs2)).trans HK2.out.2.1, (((Below.refl w2.heap.size w2).alloc (Nat.le_refl _) o).cell (p := ⟨TB, 0, none⟩) (Nat.lt_of_lt_of_le hTW hs2)).trans HK2.out.2.2⟩); clear s5 s6 o2 r2)
          | (go_at_call 135; (with_reducible refine (winhigh_any g (fun k => S1 k ∨ k = W.heap.size) x.win tm tl (W.alloc (.cells #[.int .i64 0, .slice none 0 0, .slice none 0 0] 62)).drew HSV.out HWV.out hrl HFI.out HFT.out HFC.out).mono ?_); rintro e w2 ⟨A5, n5, c5, A6, n6, c6, rfl, s5, s6, o2, r2⟩; rw [HOK.out, HTL.out]; rw [HTN.out] at s6; have O2 := Lib.hid o2; have R2 := Lib.hid r2; have T5 := Lib.hid s5; have T6 := Lib.hid s6; have HK2 := Lib.hid (show w2.cell? ⟨gm, 0, none⟩ = some (.pointer (some ⟨g, 0, none⟩)) ∧ w2.cell? ⟨TB, 4, none⟩ = some (.int .i64 tm) ∧ w2.cell? ⟨TB, 0, none⟩ = some (.int .i64 tl) from ⟨(r2.cell (p := ⟨gm, 0, none⟩) (.inl hg1)).trans HKV.out.1, (r2.cell (p := ⟨TB, 4, none⟩) (.inl ht1)).trans HKV.out.2.1, (r2.cell (p := ⟨TB, 0, none⟩) (.inl ht1)).trans HKV.out.2.2⟩); have hs2 := r2.size; have HXW := Lib.hid (HXV.out.rest r2 (.inr rfl)); obtain ⟨q0, q1, q2, qz⟩ := HXW.out.c3; have HK4 := Lib.hid (show ∀ a b c, (((w2.setCell ⟨W.heap.size, 0, none⟩ a).setCell ⟨W.heap.size, 1, none⟩ b).setCell ⟨W.heap.size, 2, none⟩ c).cell? ⟨gm, 0, none⟩ = some (.pointer (some ⟨g, 0, none⟩)) ∧ (((w2.setCell ⟨W.heap.size, 0, none⟩ a).setCell ⟨W.heap.size, 1, none⟩ b).setCell ⟨W.heap.size, 2, none⟩ c).cell? ⟨TB, 4, none⟩ = some (.int .i64 tm) ∧ (((w2.setCell ⟨W.heap.size, 0, none⟩ a).setCell ⟨W.heap.size, 1, none⟩ b).setCell ⟨W.heap.size, 2, none⟩ c).cell? ⟨TB, 0, none⟩ = some (.int .i64 tl) from fun a b c => ⟨(cell_set3 (p := ⟨gm, 0, none⟩) hne1 a b c).trans HK2.out.1, (cell_set3 (p := ⟨TB, 4, none⟩) hne2 a b c).trans HK2.out.2.1, (cell_set3 (p := ⟨TB, 0, none⟩) hne2 a b c).trans HK2.out.2.2⟩); clear s5 s6 o2 r2)
          | fail)
      all_goals first
        | (obtain ⟨XB, hXB⟩ : ∃ XB, XB = w2.heap.size := ⟨_, rfl⟩
           obtain ⟨w3, hw3⟩ : ∃ w3, w3 = w2.alloc (.cells #[.int .i64 tl, .slice A5 n5 c5, .slice A6 n6 c6] 62) := ⟨_, rfl⟩
           have HI := Lib.hid (hi_A (W := W) hXB hw3 HS1.out O2.out R2.out T5.out T6.out)
           rw [← hw3, ← hXB]
           clear hXB hw3)
        | (obtain ⟨XB, hXB⟩ : ∃ XB, XB = W.heap.size := ⟨_, rfl⟩
           obtain ⟨w3, hw3⟩ : ∃ w3, w3 = (((w2.setCell ⟨XB, 0, none⟩ (.int .i64 tl)).setCell ⟨XB, 1, none⟩ (.slice A5 n5 c5)).setCell ⟨XB, 2, none⟩ (.slice A6 n6 c6)) := ⟨_, rfl⟩
           have HI := Lib.hid (hi_B (W := W) (V := (W.alloc (.cells #[.int .i64 0, .slice none 0 0, .slice none 0 0] 62)).drew) rfl hXB hw3 HS1.out (by rw [hXB]; exact O2.out) (by rw [hXB]; exact R2.out) (by rw [hXB]; exact HXW.out) T5.out T6.out)
           rw [← hXB, ← hw3]
           clear hXB hw3)
      all_goals
        have BT3 := Lib.hid (BT.out.rest HI.out.rest ht1)
        have BR3 := Lib.hid (BR.out.rest HI.out.rest hr1)
        have HMA := Lib.hid (HM.out.newWin (z := x.win.told tm tl) (by rw [← HE1.out]; exact HI.out.own.less (fun k hk => .inl hk)) (by rw [← HE1.out]; exact HI.out.rest))
        have HRS := Lib.hid (show Rest S w w3 from ((Rest.refl S w).below HS.out HB.out).trans (HI.out.rest.less (fun k hk => HS1S.out k (HSS.out k hk))))
        have nSR : ¬ S RB := fun hs => by have := HS.out RB hs; have := H2.out; omega
        clear t0 t1 t2 t3 t4 tz g0 g1 g2 g3 g4 gz
        obtain ⟨t0, t1, t2, t3, t4, tz⟩ := BT3.out.c5
        obtain ⟨r0, r1, r2, rz⟩ := BR3.out.c3
        obtain ⟨x0, x1, x2, xz⟩ := HI.out.bx.c3
        obtain ⟨g0, g1, g2, g3, g4, gz⟩ := HMA.out.blk.c5
        obtain rfl : n6 = 1 := HI.out.s6.len
        obtain ⟨b6, o6, nt', cs6, rfl, hb6, hx6, ⟨rfl, _⟩, hc6⟩ := HI.out.s6.at_ (k := 0) (by omega)
        obtain rfl : (⟨2, x.win.id, 0, 0, 0, x.win.cursor, x.win.last⟩ : Note) = nt' := by simpa using hx6
        have n0 : w3.cell? ⟨b6, o6, none⟩ = some (.int .i64 2) := by simpa using hc6 0 _ rfl
        have n1 : w3.cell? ⟨b6, o6 + 1, none⟩ = some (.int .i64 x.win.id) := by simpa using hc6 1 _ rfl
        have n2' : w3.cell? ⟨b6, o6 + 2, none⟩ = some (.int .i64 0) := by simpa using hc6 2 _ rfl
        have n3 : w3.cell? ⟨b6, o6 + 3, none⟩ = some (.int .i64 0) := by simpa using hc6 3 _ rfl
        have n4 : w3.cell? ⟨b6, o6 + 4, none⟩ = some (.int .i64 0) := by simpa using hc6 4 _ rfl
        have n5' : w3.cell? ⟨b6, o6 + 5, none⟩ = some (.int .i64 x.win.cursor) := by simpa using hc6 5 _ rfl
        have n6' : w3.cell? ⟨b6, o6 + 6, none⟩ = some (.bool x.win.last) := by simpa using hc6 6 _ rfl
        clear hx6 hc6
        go_wp2_with fail
        obtain ⟨NB, hNB⟩ : ∃ NB, NB = w3.heap.size := ⟨_, rfl⟩
        obtain ⟨w4, hw4⟩ : ∃ w4, w4 = w3.alloc (.cells #[.int .i64 2, .int .i64 x.win.id, .int .i64 0, .int .i64 0, .int .i64 0, .int .i64 x.win.cursor, .bool x.win.last] 91) := ⟨_, rfl⟩
        have B4 := Lib.hid (show Below w3.heap.size w3 w4 by rw [hw4]; exact (Below.refl _ _).alloc (Nat.le_refl _) _)
        have K4 := Lib.hid (show Blk w4 NB [.int .i64 2, .int .i64 x.win.id, .int .i64 0, .int .i64 0, .int .i64 0, .int .i64 x.win.cursor, .bool x.win.last] by rw [hw4]; exact Blk.new rfl hNB)
        have G4 := Lib.hid (HMA.out.blk.after B4.out)
        have hNBg := HMA.out.blk.lt
        have HRQ := Lib.hid (show IsSl reqRep w4.drew (· < w4.drew.heap.size) Am x.reqs.length x.reqs from ((HMA.out.reqs.keep (fun p hp => B4.out.cell (HMA.out.hT _ hp))).weak (S' := (· < w4.heap.size)) (fun k hk => Nat.lt_of_lt_of_le (HMA.out.hT _ hk) B4.out.size)).keep (fun _ _ => rfl))
        have BR4 := Lib.hid (BR3.out.after B4.out)
        have BX4 := Lib.hid (HI.out.bx.after B4.out)
        have HNB := Lib.hid hNB
        rw [← hw4, ← hNB]
        clear hw4 hNB t0 t1 t2 t3 t4 tz r0 r1 r2 rz g0 g1 g2 g3 g4 gz x0 x1 x2 xz n0 n1 n2' n3 n4 n5' n6'
        obtain ⟨g0, g1, g2, g3, g4, gz⟩ := G4.out.c5
        obtain ⟨k0, k1, k2, k3, k4, k5, k6, kz⟩ := K4.out.c7
        have hg4 : gm < w4.drew.heap.size := G4.out.lt
        have hk4 : NB < w4.drew.heap.size := K4.out.lt
        go_region_held3 (fun w' => w'.cell? ⟨gm, 4, none⟩ = some (.slice Am x.reqs.length cm) ∧ w'.cell? ⟨NB, 1, none⟩ = some (.int .i64 x.win.id) ∧ w'.cell? ⟨NB, 5, none⟩ = some (.int .i64 x.win.cursor) ∧ w'.cell? ⟨NB, 6, none⟩ = some (.bool x.win.last)) (first | exact ⟨g4, k1, k5, k6⟩ | exact ⟨(B5.out.cell hg4).trans g4, (B5.out.cell hk4).trans k1, (B5.out.cell hk4).trans k5, (B5.out.cell hk4).trans k6⟩ | fail)
          (first
            | (go_at_call 136; (with_reducible refine (chunk_any Am x.reqs.length cm x.reqs x.win.id x.win.cursor x.win.last w4.drew HRQ.out (by have := HFM.out; omega) HFI.out HFC.out).mono ?_); rintro e w5 ⟨v5, rfl, own5, bel5⟩; rw [← HOO.out] at own5 ⊢; obtain ⟨A7, c7, rfl⟩ := own5.form; have B5 := Lib.hid bel5; clear own5 bel5)
            | fail)
        have R5 := Lib.hid (show Below w3.heap.size w3 w5 from B4.out.trans ((below_of_drew' B5.out).mono B4.out.size))
        have BR5 := Lib.hid (BR3.out.after R5.out)
        have BX5 := Lib.hid (HI.out.bx.after R5.out)
        have G5 := Lib.hid (HMA.out.blk.after R5.out)
        have hXl := HI.out.bx.lt
        clear g0 g1 g2 g3 g4 gz k0 k1 k2 k3 k4 k5 k6 kz
        obtain ⟨g0, g1, g2, g3, g4, gz⟩ := G5.out.c5
        obtain ⟨r0, r1, r2, rz⟩ := BR5.out.c3
        obtain ⟨x0, x1, x2, xz⟩ := BX5.out.c3
        have nXR : RB ≠ XB := by have := HI.out.ge; have := BR.out.lt; omega
        have nXR' : (XB = RB) = False := by simp; exact fun e => nXR e.symm
        have nRX' : (RB = XB) = False := by simp; exact nXR
        have nXg : gm ≠ XB := by have := HI.out.ge; omega
        have nXg' : (XB = gm) = False := by simp; exact fun e => nXg e.symm
        have ngX' : (gm = XB) = False := by simp; exact nXg
        have nRg : RB ≠ gm := fun e => HM.out.nS (e ▸ HSR.out)
        have nRg' : (RB = gm) = False := by simp; exact nRg
        have ngR' : (gm = RB) = False := by simp; exact fun e => nRg e.symm
        go_wp2
        have hge := HI.out.ge
        have hrw := BR.out.lt
        have hgW3 := HM.out.blk.lt
        have hbs := HB.out.size
        have hs3 := R5.out.size
        obtain ⟨W9, hW9⟩ : ∃ W9, W9 = ((((w5.setCell ⟨XB, 2, none⟩ (.slice none 0 0)).setCell ⟨RB, 0, none⟩ (.int .i64 tl)).setCell ⟨RB, 1, none⟩ (.slice A5 n5 c5)).setCell ⟨RB, 2, none⟩ (.slice none 0 0)) := ⟨_, rfl⟩
        have BR9 := Lib.hid (show Blk W9 RB [.int .i64 tl, .slice A5 n5 c5, .slice none 0 0] by rw [hW9]; exact (((BR5.out.other nXR 2 _).put (j := 0) (by simp) _ rfl).put (j := 1) (by simp) _ rfl).put (j := 2) (by simp) _ rfl)
        have SM := (show MuxOwn W9 S gm g (x.setWin (x.win.told tm tl)) by rw [hW9]; exact (((((HMA.out.withX (XB := XB) (HI.out.own.less (fun k hk => by rw [HE1.out]; exact hk)) nXg (fun k hk e => by have := HM.out.hT k hk; omega)).below R5.out).set (.inr rfl) 2 _).set (.inl HSR.out) 0 _ |>.set (.inl HSR.out) 1 _).set (.inl HSR.out) 2 _).sets (fun k hk => .inl (.inl (HSS.out k hk))))
        have SR := (show Rest S w W9 by rw [hW9]; exact ((HRS.out.below (fun k hk => by have := HS.out k hk; omega) R5.out).set (fun hs => by have := HS.out _ hs; omega) 2 _).set3 nSR _ _ _)
        have SO := HI.out.s5.outs (w := w) (W9 := W9) hbs (by rw [hW9]; simpa using hs3) (fun p h1 h2 h3 => by rw [hW9]; exact (cell_set3 (by omega) _ _ _).trans ((World.cell?_setCell_other _ _ _ _ (fun e => h3 (by rw [← e]))).trans (R5.out.cell h2)))
        rw [← hW9]
        clear hW9 r0 r1 r2 rz
        obtain ⟨r0, r1, r2, rz⟩ := BR9.out.c3
        refine bodyPost_ret (by simp [results, Try.results79, go_sem, r0, r1, r2]; try rfl) rfl ?_
        unfold ItmPost
        rw [HHI.out, HHM.out]
        exact ⟨_, _, _, none, 0, 0, rfl, SO, IsSl.nil, SM, SR⟩
    | some M =>
      go_enter Try.func79, Try.ntmps79
      go_wp2_with fail
      rw [← HW.out, ← H2.out, ← H1.out]
      go_region_held3 (fun w' => w'.cell? ⟨gm, 0, none⟩ = some (.pointer (some ⟨g, 0, none⟩)) ∧ w'.cell? ⟨TB, 4, none⟩ = some (.int .i64 tm) ∧ w'.cell? ⟨TB, 0, none⟩ = some (.int .i64 tl)) (first | exact HK0.out | exact HKV.out | exact HK2.out | exact HK3.out _ | exact HK4.out _ _ _ | fail)
        (first
          | (go_at_call 135; (with_reducible refine (winhigh_any g S1 x.win tm tl W.drew HS1.out HWN.out hrl HFI.out HFT.out HFC.out).mono ?_); rintro e w2 ⟨A5, n5, c5, A6, n6, c6, rfl, s5, s6, o2, r2⟩; rw [HOK.out, HTL.out]; rw [HTN.out] at s6; have O2 := Lib.hid o2; have R2 := Lib.hid r2; have T5 := Lib.hid s5; have T6 := Lib.hid s6; have HK2 := Lib.hid (show w2.cell? ⟨gm, 0, none⟩ = some (.pointer (some ⟨g, 0, none⟩)) ∧ w2.cell? ⟨TB, 4, none⟩ = some (.int .i64 tm) ∧ w2.cell? ⟨TB, 0, none⟩ = some (.int .i64 tl) from ⟨(r2.cell (p := ⟨gm, 0, none⟩) hg1).trans HK0.out.1, (r2.cell (p := ⟨TB, 4, none⟩) ht1).trans HK0.out.2.1, (r2.cell (p := ⟨TB, 0, none⟩) ht1).trans HK0.out.2.2⟩); have hs2 := r2.size; have HK3 := Lib.hid (show ∀ o, (w2.alloc o).cell? ⟨gm, 0, none⟩ = some (.pointer (some ⟨g, 0, none⟩)) ∧ (w2.alloc o).cell? ⟨TB, 4, none⟩ = some (.int .i64 tm) ∧ (w2.alloc o).cell? ⟨TB, 0, none⟩ = some (.int .i64 tl) from fun o => ⟨(((Below.refl w2.heap.size w2).alloc (Nat.le_refl _) o).cell (p := ⟨gm, 0, none⟩) (Nat.lt_of_lt_of_le hgW hs2)).trans HK2.out.1, (((Below.refl w2.heap.size w2).alloc (Nat.le_refl _) o).cell (p := ⟨TB, 4, none⟩) (Nat.lt_of_lt_of_le hTW hs2)).trans HK2.out.2.1, (((Below.refl w2.heap.size w2).alloc (Nat.le_refl _) o).cell (p := ⟨TB, 0, none⟩) (Nat.lt_of_lt_of_le hTW hs2)).trans HK2.out.2.2⟩); clear s5 s6 o2 r2)
          | (go_at_call 135; (with_reducible refine (winhigh_any g (fun k => S1 k ∨ k = W.heap.size) x.win tm tl (W.alloc (.cells #[.int .i64 0, .slice none 0 0, .slice none 0 0] 62)).drew HSV.out HWV.out hrl HFI.out HFT.out HFC.out).mono ?_); rintro e w2 ⟨A5, n5, c5, A6, n6, c6, rfl, s5, s6, o2, r2⟩; rw [HOK.out, HTL.out]; rw [HTN.out] at s6; have O2 := Lib.hid o2; have R2 := Lib.hid r2; have T5 := Lib.hid s5; have T6 := Lib.hid s6; have HK2 := Lib.hid (show w2.cell? ⟨gm, 0, none⟩ = some (.pointer (some ⟨g, 0, none⟩)) ∧ w2.cell? ⟨TB, 4, none⟩ = some (.int .i64 tm) ∧ w2.cell? ⟨TB, 0, none⟩ = some (.int .i64 tl) from ⟨(r2.cell (p := ⟨gm, 0, none⟩) (.inl hg1)).trans HKV.out.1, (r2.cell (p := ⟨TB, 4, none⟩) (.inl ht1)).trans HKV.out.2.1, (r2.cell (p := ⟨TB, 0, none⟩) (.inl ht1)).trans HKV.out.2.2⟩); have hs2 := r2.size; have HXW := Lib.hid (HXV.out.rest r2 (.inr rfl)); obtain ⟨q0, q1, q2, qz⟩ := HXW.out.c3; have HK4 := Lib.hid (show ∀ a b c, (((w2.setCell ⟨W.heap.size, 0, none⟩ a).setCell ⟨W.heap.size, 1, none⟩ b).setCell ⟨W.heap.size, 2, none⟩ c).cell? ⟨gm, 0, none⟩ = some (.pointer (some ⟨g, 0, none⟩)) ∧ (((w2.setCell ⟨W.heap.size, 0, none⟩ a).setCell ⟨W.heap.size, 1, none⟩ b).setCell ⟨W.heap.size, 2, none⟩ c).cell? ⟨TB, 4, none⟩ = some (.int .i64 tm) ∧ (((w2.setCell ⟨W.heap.size, 0, none⟩ a).setCell ⟨W.heap.size, 1, none⟩ b).setCell ⟨W.heap.size, 2, none⟩ c).cell? ⟨TB, 0, none⟩ = some (.int .i64 tl) from fun a b c => ⟨(cell_set3 (p := ⟨gm, 0, none⟩) hne1 a b c).trans HK2.out.1, (cell_set3 (p := ⟨TB, 4, none⟩) hne2 a b c).trans HK2.out.2.1, (cell_set3 (p := ⟨TB, 0, none⟩) hne2 a b c).trans HK2.out.2.2⟩); clear s5 s6 o2 r2)
          | fail)
      all_goals first
        | (obtain ⟨XB, hXB⟩ : ∃ XB, XB = w2.heap.size := ⟨_, rfl⟩
           obtain ⟨w3, hw3⟩ : ∃ w3, w3 = w2.alloc (.cells #[.int .i64 tl, .slice A5 n5 c5, .slice A6 n6 c6] 62) := ⟨_, rfl⟩
           have HI := Lib.hid (hi_A (W := W) hXB hw3 HS1.out O2.out R2.out T5.out T6.out)
           rw [← hw3, ← hXB]
           clear hXB hw3)
        | (obtain ⟨XB, hXB⟩ : ∃ XB, XB = W.heap.size := ⟨_, rfl⟩
           obtain ⟨w3, hw3⟩ : ∃ w3, w3 = (((w2.setCell ⟨XB, 0, none⟩ (.int .i64 tl)).setCell ⟨XB, 1, none⟩ (.slice A5 n5 c5)).setCell ⟨XB, 2, none⟩ (.slice A6 n6 c6)) := ⟨_, rfl⟩
           have HI := Lib.hid (hi_B (W := W) (V := (W.alloc (.cells #[.int .i64 0, .slice none 0 0, .slice none 0 0] 62)).drew) rfl hXB hw3 HS1.out (by rw [hXB]; exact O2.out) (by rw [hXB]; exact R2.out) (by rw [hXB]; exact HXW.out) T5.out T6.out)
           rw [← hXB, ← hw3]
           clear hXB hw3)
      all_goals
        have BT3 := Lib.hid (BT.out.rest HI.out.rest ht1)
        have BR3 := Lib.hid (BR.out.rest HI.out.rest hr1)
        have HMA := Lib.hid (HM.out.newWin (z := x.win.told tm tl) (by rw [← HE1.out]; exact HI.out.own.less (fun k hk => .inl hk)) (by rw [← HE1.out]; exact HI.out.rest))
        have HRS := Lib.hid (show Rest S w w3 from ((Rest.refl S w).below HS.out HB.out).trans (HI.out.rest.less (fun k hk => HS1S.out k (HSS.out k hk))))
        have nSR : ¬ S RB := fun hs => by have := HS.out RB hs; have := H2.out; omega
        clear t0 t1 t2 t3 t4 tz g0 g1 g2 g3 g4 gz
        obtain ⟨t0, t1, t2, t3, t4, tz⟩ := BT3.out.c5
        obtain ⟨r0, r1, r2, rz⟩ := BR3.out.c3
        obtain ⟨x0, x1, x2, xz⟩ := HI.out.bx.c3
        obtain ⟨g0, g1, g2, g3, g4, gz⟩ := HMA.out.blk.c5
        obtain rfl : n6 = 1 := HI.out.s6.len
        obtain ⟨b6, o6, nt', cs6, rfl, hb6, hx6, ⟨rfl, _⟩, hc6⟩ := HI.out.s6.at_ (k := 0) (by omega)
        obtain rfl : (⟨2, x.win.id, 0, 0, 0, x.win.cursor, x.win.last⟩ : Note) = nt' := by simpa using hx6
        have n0 : w3.cell? ⟨b6, o6, none⟩ = some (.int .i64 2) := by simpa using hc6 0 _ rfl
        have n1 : w3.cell? ⟨b6, o6 + 1, none⟩ = some (.int .i64 x.win.id) := by simpa using hc6 1 _ rfl
        have n2' : w3.cell? ⟨b6, o6 + 2, none⟩ = some (.int .i64 0) := by simpa using hc6 2 _ rfl
        have n3 : w3.cell? ⟨b6, o6 + 3, none⟩ = some (.int .i64 0) := by simpa using hc6 3 _ rfl
        have n4 : w3.cell? ⟨b6, o6 + 4, none⟩ = some (.int .i64 0) := by simpa using hc6 4 _ rfl
        have n5' : w3.cell? ⟨b6, o6 + 5, none⟩ = some (.int .i64 x.win.cursor) := by simpa using hc6 5 _ rfl
        have n6' : w3.cell? ⟨b6, o6 + 6, none⟩ = some (.bool x.win.last) := by simpa using hc6 6 _ rfl
        clear hx6 hc6
        go_wp2_with fail
        obtain ⟨NB, hNB⟩ : ∃ NB, NB = w3.heap.size := ⟨_, rfl⟩
        obtain ⟨w4, hw4⟩ : ∃ w4, w4 = w3.alloc (.cells #[.int .i64 2, .int .i64 x.win.id, .int .i64 0, .int .i64 0, .int .i64 0, .int .i64 x.win.cursor, .bool x.win.last] 91) := ⟨_, rfl⟩
        have B4 := Lib.hid (show Below w3.heap.size w3 w4 by rw [hw4]; exact (Below.refl _ _).alloc (Nat.le_refl _) _)
        have K4 := Lib.hid (show Blk w4 NB [.int .i64 2, .int .i64 x.win.id, .int .i64 0, .int .i64 0, .int .i64 0, .int .i64 x.win.cursor, .bool x.win.last] by rw [hw4]; exact Blk.new rfl hNB)
        have G4 := Lib.hid (HMA.out.blk.after B4.out)
        have hNBg := HMA.out.blk.lt
        have HRQ := Lib.hid (show IsSl reqRep w4.drew (· < w4.drew.heap.size) Am x.reqs.length x.reqs from ((HMA.out.reqs.keep (fun p hp => B4.out.cell (HMA.out.hT _ hp))).weak (S' := (· < w4.heap.size)) (fun k hk => Nat.lt_of_lt_of_le (HMA.out.hT _ hk) B4.out.size)).keep (fun _ _ => rfl))
        have BR4 := Lib.hid (BR3.out.after B4.out)
        have BX4 := Lib.hid (HI.out.bx.after B4.out)
        have HNB := Lib.hid hNB
        rw [← hw4, ← hNB]
        clear hw4 hNB t0 t1 t2 t3 t4 tz r0 r1 r2 rz g0 g1 g2 g3 g4 gz x0 x1 x2 xz n0 n1 n2' n3 n4 n5' n6'
        obtain ⟨g0, g1, g2, g3, g4, gz⟩ := G4.out.c5
        obtain ⟨k0, k1, k2, k3, k4, k5, k6, kz⟩ := K4.out.c7
        have hg4 : gm < w4.drew.heap.size := G4.out.lt
        have hk4 : NB < w4.drew.heap.size := K4.out.lt
        go_region_held3 (fun w' => w'.cell? ⟨gm, 4, none⟩ = some (.slice Am x.reqs.length cm) ∧ w'.cell? ⟨NB, 1, none⟩ = some (.int .i64 x.win.id) ∧ w'.cell? ⟨NB, 5, none⟩ = some (.int .i64 x.win.cursor) ∧ w'.cell? ⟨NB, 6, none⟩ = some (.bool x.win.last)) (first | exact ⟨g4, k1, k5, k6⟩ | exact ⟨(B5.out.cell hg4).trans g4, (B5.out.cell hk4).trans k1, (B5.out.cell hk4).trans k5, (B5.out.cell hk4).trans k6⟩ | fail)
          (first
            | (go_at_call 136; (with_reducible refine (chunk_any Am x.reqs.length cm x.reqs x.win.id x.win.cursor x.win.last w4.drew HRQ.out (by have := HFM.out; omega) HFI.out HFC.out).mono ?_); rintro e w5 ⟨v5, rfl, own5, bel5⟩; rw [← HOO.out] at own5 ⊢; rw [show (some M).getD [] = M from rfl] at own5; obtain ⟨A7, c7, rfl, l7, m7', s7⟩ := own5.isSlR; obtain ⟨m7, hm7⟩ : ∃ m7, m7 = M.length := ⟨_, rfl⟩; rw [← hm7] at l7 s7 ⊢; have S7 := Lib.hid s7; clear s7 hm7; have B5 := Lib.hid bel5; clear own5 bel5)
            | fail)
        have R5 := Lib.hid (show Below w3.heap.size w3 w5 from B4.out.trans ((below_of_drew' B5.out).mono B4.out.size))
        have BR5 := Lib.hid (BR3.out.after R5.out)
        have BX5 := Lib.hid (HI.out.bx.after R5.out)
        have G5 := Lib.hid (HMA.out.blk.after R5.out)
        have hXl := HI.out.bx.lt
        clear g0 g1 g2 g3 g4 gz k0 k1 k2 k3 k4 k5 k6 kz
        obtain ⟨g0, g1, g2, g3, g4, gz⟩ := G5.out.c5
        obtain ⟨r0, r1, r2, rz⟩ := BR5.out.c3
        obtain ⟨x0, x1, x2, xz⟩ := BX5.out.c3
        have nXR : RB ≠ XB := by have := HI.out.ge; have := BR.out.lt; omega
        have nXR' : (XB = RB) = False := by simp; exact fun e => nXR e.symm
        have nRX' : (RB = XB) = False := by simp; exact nXR
        have nXg : gm ≠ XB := by have := HI.out.ge; omega
        have nXg' : (XB = gm) = False := by simp; exact fun e => nXg e.symm
        have ngX' : (gm = XB) = False := by simp; exact nXg
        have nRg : RB ≠ gm := fun e => HM.out.nS (e ▸ HSR.out)
        have nRg' : (RB = gm) = False := by simp; exact nRg
        have ngR' : (gm = RB) = False := by simp; exact fun e => nRg e.symm
        go_wp2
        have hge := HI.out.ge
        have hrw := BR.out.lt
        have hgW3 := HM.out.blk.lt
        have hbs := HB.out.size
        have hs3 := R5.out.size
        obtain ⟨W9, hW9⟩ : ∃ W9, W9 = ((((w5.setCell ⟨gm, 4, none⟩ (.slice A7 m7 c7)).setCell ⟨RB, 0, none⟩ (.int .i64 tl)).setCell ⟨RB, 1, none⟩ (.slice A5 n5 c5)).setCell ⟨RB, 2, none⟩ (.slice (some ⟨b6, o6, none⟩) 1 c6)) := ⟨_, rfl⟩
        have BR9 := Lib.hid (show Blk W9 RB [.int .i64 tl, .slice A5 n5 c5, .slice (some ⟨b6, o6, none⟩) 1 c6] by rw [hW9]; exact (((BR5.out.other nRg 4 _).put (j := 0) (by simp) _ rfl).put (j := 1) (by simp) _ rfl).put (j := 2) (by simp) _ rfl)
        have hNR := (show MuxOwn w3 S' gm g (x.setWin (x.win.told tm tl)) from ⟨T, Am, cm, HMA.out⟩).newReqs R5.out (fun k hk => Nat.lt_of_lt_of_le (HS1.out k (HS1S.out k hk)) HI.out.rest.size) (S7.out.weak (fun k hk => ⟨Nat.le_trans B4.out.size hk.1, hk.2⟩)) l7 m7'
        have SM := (show MuxOwn W9 S gm g ((x.setReqs M).setWin (x.win.told tm tl)) by rw [hW9]; exact ((((hNR.1).set HSR.out 0 _).set HSR.out 1 _).set HSR.out 2 _).sets (fun k hk => .inl (HSS.out k hk)))
        have SR := (show Rest S w W9 by rw [hW9]; exact (HRS.out.trans (hNR.2.less (fun k hk => HSS.out k hk))).set3 nSR _ _ _)
        have hce := (show ∀ p : Addr, W.heap.size ≤ p.block → p.block < w3.heap.size → p.block ≠ XB → W9.cell? p = w3.cell? p from fun p h1 h2 h3 => by rw [hW9]; exact (cell_set3 (by omega) _ _ _).trans ((World.cell?_setCell_other _ _ _ _ (fun e => by rw [← e] at h1; dsimp only at h1; omega)).trans (R5.out.cell h2)))
        have SO := HI.out.s5.outs (w := w) (W9 := W9) hbs (by rw [hW9]; simpa using hs3) hce
        have SN := HI.out.s6.outs (w := w) (W9 := W9) hbs (by rw [hW9]; simpa using hs3) hce
        rw [← hW9]
        clear hW9 r0 r1 r2 rz
        obtain ⟨r0, r1, r2, rz⟩ := BR9.out.c3
        refine bodyPost_ret (by simp [results, Try.results79, go_sem, r0, r1, r2]; try rfl) rfl ?_
        unfold ItmPost
        rw [HHI.out, HHM.out]
        try dsimp only
        rw [HTE.out] at SO ⊢
        exact ⟨_, _, _, _, _, _, rfl, SO, SN, SM, SR⟩
end Go.Proofs.Ythhpddiicnjmmaa
