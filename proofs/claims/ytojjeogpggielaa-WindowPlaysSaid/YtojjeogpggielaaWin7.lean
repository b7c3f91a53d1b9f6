/- Contract of the window: High. -/
import Derived.Test.YtojjeogpggielaaWin6
import Derived.Test.YtojjeogpggielaaTypesN
import Derived.Deep.RegionHeld3
import Derived.Deep.DeepCutAuto
import Derived.BigRegion
set_option linter.unusedVariables false
set_option linter.unusedSimpArgs false
namespace Go.Proofs.Ytojjeogpggielaa
open Go.RowKit

structure Itm where
  lsn : Int
  ops : List Opr
  notes : List Note

def opOf (lsn table : Int) (r : Row) : Opr := ⟨lsn, table, r.key, false, r.val⟩

def Win.highOk (x : Win) (mark lsn : Int) : Bool := decide (x.state = 4 ∧ mark = x.mark ∧ 1 ≤ lsn ∧ lsn ≤ 1099511627776)
def Win.tell (x : Win) (mark lsn : Int) : Itm := if x.highOk mark lsn = true then ⟨lsn, x.rows.map (opOf lsn x.table), [⟨2, x.id, 0, 0, 0, x.cursor, x.last⟩]⟩ else ⟨0, [], []⟩
def Win.told (x : Win) (mark lsn : Int) : Win := if x.highOk mark lsn = true then win0 x.n else x

/-- A value is an item. -/
def ItmIn (w : World) (T : Nat → Prop) (v : Value) (it : Itm) : Prop := ∃ A n c A2 n2 c2, v = .agg #[.int .i64 it.lsn, .slice A n c, .slice A2 n2 c2] ∧ IsSl oprRep w T A n it.ops ∧ IsSl noteRep w T A2 n2 it.notes

theorem IsSl.ofBlk1 {α : Type} {R : Rep α} {w : World} {T : Nat → Prop} {b : Nat} {cs : List Value} {a : α} (h : Blk w b cs) (hr : R.rel w T a cs) (hT : T b) : IsSl R w T (some ⟨b, 0, none⟩) 1 [a] :=
  ⟨rfl, [cs], Rows.single hr, fun _ => ⟨b, 0, rfl, hT, fun j u hu => by
    rw [Nat.zero_add]
    exact h.1 j u (by simpa using hu)⟩⟩

theorem note_wf {i c : Int} {b : Bool} (hi : I64 i) (hc : I64 c) : (⟨2, i, 0, 0, 0, c, b⟩ : Note).wf := by
  refine ⟨?_, hi, ?_, ?_, ?_, hc⟩ <;> (constructor <;> (dsimp only; omega))

theorem info_opr : (Try.prog.info? 51).map (fun i => (i.zero, i.size, i.bytes)) = some (some (.agg #[.int .i64 0, .int .i64 0, .int .i64 0, .bool false, .string ByteArray.empty]), 5, 48) := by kernel_rfl

set_option maxHeartbeats 8000000 in
set_option maxRecDepth 100000 in
theorem winhigh_no (g : Nat) (S : Nat → Prop) (x : Win) (mark lsn : Int) (w : World) (hS : ∀ k, S k → k < w.heap.size) (h : WinOwn w S g x) (hno : x.highOk mark lsn = false) :
    Calls Try.prog 28 #[.pointer (some ⟨g, 0, none⟩), .int .i64 mark, .int .i64 lsn] w fun e w' => e = .returned (.tuple #[.agg #[.int .i64 0, .slice none 0 0, .slice none 0 0], .bool false]) ∧ Below w.heap.size w w' := by
  obtain ⟨rv, h⟩ := h
  obtain ⟨c0, c1, c2, c3, c4, c5, c6, c7, c8, cz⟩ := h.blk.c9
  have hgl := h.lt
  clear h
  obtain ⟨xm, xa, xi, xt, xr, xc, xl, xn, xs⟩ := x
  dsimp only at c0 c1 c2 c3 c4 c5 c6 c7 c8
  have hcases : ¬ xs = 4 ∨ (xs = 4 ∧ ¬ mark = xm) ∨ (xs = 4 ∧ mark = xm ∧ lsn < 1) ∨ (xs = 4 ∧ mark = xm ∧ 1 ≤ lsn ∧ 1099511627776 < lsn) := by
    have := of_decide_eq_false hno
    dsimp only at this
    omega
  clear hno
  have r0 : (w.alloc (.cells #[.int .i64 0, .slice none 0 0, .slice none 0 0] 44)).cell? ⟨w.heap.size, 0, none⟩ = some (.int .i64 0) := World.cell?_alloc_at _ _ _ _ rfl
  have r1 : (w.alloc (.cells #[.int .i64 0, .slice none 0 0, .slice none 0 0] 44)).cell? ⟨w.heap.size, 1, none⟩ = some (.slice none 0 0) := World.cell?_alloc_at _ _ _ _ rfl
  have r2 : (w.alloc (.cells #[.int .i64 0, .slice none 0 0, .slice none 0 0] 44)).cell? ⟨w.heap.size, 2, none⟩ = some (.slice none 0 0) := World.cell?_alloc_at _ _ _ _ rfl
  rcases hcases with h1 | ⟨h1, h2⟩ | ⟨h1, h2, h3⟩ | ⟨h1, h2, h3, h4⟩
  · have d1 : (xs == 4) = false := by simpa using h1
    have d1n : (xs != 4) = true := by simpa using h1
    have d1d : decide (xs = 4) = false := decide_eq_false h1
    clear h1
    go_enter Try.func28, Try.ntmps28
    go_wp2_with fail
    refine bodyPost_ret (by simp [results, Try.results28, go_sem, r0, r1, r2]; try rfl) rfl ?_
    exact ⟨rfl, (Below.refl _ _).alloc (Nat.le_refl _) _⟩
  · subst h1
    have d1 : (mark == xm) = false := by simpa using h2
    have d1n : (mark != xm) = true := by simpa using h2
    have d1d : decide (mark = xm) = false := decide_eq_false h2
    clear h2
    go_enter Try.func28, Try.ntmps28
    go_wp2_with fail
    refine bodyPost_ret (by simp [results, Try.results28, go_sem, r0, r1, r2]; try rfl) rfl ?_
    exact ⟨rfl, (Below.refl _ _).alloc (Nat.le_refl _) _⟩
  · subst h1 h2
    have d1 : decide (lsn < 1) = true := decide_eq_true h3
    clear h3
    go_enter Try.func28, Try.ntmps28
    go_wp2_with fail
    refine bodyPost_ret (by simp [results, Try.results28, go_sem, r0, r1, r2]; try rfl) rfl ?_
    exact ⟨rfl, (Below.refl _ _).alloc (Nat.le_refl _) _⟩
  · subst h1 h2
    have d1 : decide (lsn < 1) = false := decide_eq_false (by omega)
    have d2 : decide (1099511627776 < lsn) = true := decide_eq_true h4
    clear h3 h4
    go_enter Try.func28, Try.ntmps28
    go_wp2_with fail
    refine bodyPost_ret (by simp [results, Try.results28, go_sem, r0, r1, r2]; try rfl) rfl ?_
    exact ⟨rfl, (Below.refl _ _).alloc (Nat.le_refl _) _⟩

theorem Own.sl {α : Type} {R : Rep α} {w : World} {base : Nat} {S : Nat → Prop} {e : TypeId} {A : Option Addr} {n c : Nat} {l : List α} (h : Own R w base S e (.slice A n c) l) : IsSl R w (fun _ => True) A n l := by
  obtain ⟨A', c', hv, _, _, sl⟩ := h.isSl (S' := fun _ => True) (fun _ _ => trivial) (fun _ _ _ => trivial)
  injection hv with h1 h2 h3
  subst h1 h2
  exact sl

set_option maxHeartbeats 8000000 in
set_option maxRecDepth 100000 in
theorem winhigh_ok (g : Nat) (S : Nat → Prop) (x : Win) (mark lsn : Int) (w : World) (hS : ∀ k, S k → k < w.heap.size) (h : WinOwn w S g x) (hok : x.highOk mark lsn = true) (hn : x.rows.length ≤ 100000) (hi : I64 x.id) (ht : I64 x.table) (hc : I64 x.cursor) :
    Calls Try.prog 28 #[.pointer (some ⟨g, 0, none⟩), .int .i64 mark, .int .i64 lsn] w fun e w' => ∃ v, e = .returned (.tuple #[v, .bool true]) ∧ ItmIn w' (fun k => w.heap.size ≤ k ∧ k < w'.heap.size) v (x.tell mark lsn) ∧ WinOwn w' S g (win0 x.n) ∧ Rest S w w' := by
  have HTELL := Lib.hid (show x.tell mark lsn = ⟨lsn, x.rows.map (opOf lsn x.table), [⟨2, x.id, 0, 0, 0, x.cursor, x.last⟩]⟩ from if_pos hok)
  obtain ⟨rv, h⟩ := h
  obtain ⟨xm, xa, xi, xt, xr, xc, xl, xn, xs⟩ := x
  obtain ⟨A0, c0', hrv⟩ := h.own.form
  dsimp only at hrv hn hi ht hc
  subst hrv
  obtain ⟨h1, h2, h3, h4⟩ := of_decide_eq_true hok
  (try dsimp only at h1 h2)
  subst h1 h2
  clear hok
  have d1 : decide (lsn < 1) = false := decide_eq_false (by omega)
  have d2 : decide (1099511627776 < lsn) = false := decide_eq_false (by omega)
  obtain ⟨nr, hnr⟩ : ∃ nr, nr = xr.length := ⟨_, rfl⟩
  have HWI := Lib.hid (show I64 xi ∧ I64 xt ∧ I64 xc ∧ I64 lsn from ⟨hi, ht, hc, by constructor <;> omega⟩)
  clear h3 h4 hi ht hc
  obtain ⟨W, hW⟩ : ∃ W, W = w.alloc (.cells #[.int .i64 0, .slice none 0 0, .slice none 0 0] 44) := ⟨_, rfl⟩
  have B1 := Lib.hid (show Below w.heap.size w W by rw [hW]; exact (Below.refl _ _).alloc (Nat.le_refl _) _)
  have WA := Lib.hid (h.below B1.out)
  have KR := Lib.hid (show Blk W w.heap.size [.int .i64 0, .slice none 0 0, .slice none 0 0] by rw [hW]; exact Blk.new rfl rfl)
  rw [← hnr] at WA hn
  have hgl := h.lt
  have HNR := Lib.hid hnr
  obtain ⟨q0, q1, q2, q3, q4, q5, q6, q7, q8, qz⟩ := h.blk.c9
  (try dsimp only at q4)
  rw [← hnr] at q4
  clear hnr h
  have HW := Lib.hid hW
  clear hW
  go_enter Try.func28, Try.ntmps28
  go_wp2_with fail
  rw [← HW.out]
  clear q0 q1 q2 q3 q4 q5 q6 q7 q8 qz
  have hgw : g < W.heap.size := Nat.lt_of_lt_of_le hgl B1.out.size
  obtain ⟨k0, k1, k2, k3, k4, k5, k6, k7, k8, kz⟩ := WA.out.blk.c9
  obtain ⟨i0, hi, hz0, hz1, hz2⟩ := info_parts info_opr
  have KG := Lib.hid (show ∀ r, rowOf (.slice A0 nr c0') = some r → r < W.heap.size from fun r hr => WA.out.own.row_lt hr)
  have hRs : w.heap.size < W.heap.size := KR.out.lt
  go_region
  · obtain ⟨V, hV⟩ : ∃ V, V = ((W.alloc (.cells #[.int .i64 2, .int .i64 xi, .int .i64 0, .int .i64 0, .int .i64 0, .int .i64 xc, .bool xl] 57)).alloc (.cells #[.int .i64 lsn, .slice none 0 0, .slice (some ⟨W.heap.size, 0, none⟩) 1 1] 44)).drew := ⟨_, rfl⟩
    have KN0 := Lib.hid (show Blk V (W.heap.size) [.int .i64 2, .int .i64 xi, .int .i64 0, .int .i64 0, .int .i64 0, .int .i64 xc, .bool xl] by rw [hV]; exact ((Blk.new rfl rfl).alloc _).drew)
    have KX0 := Lib.hid (show Blk V (W.heap.size + 1) [.int .i64 lsn, .slice none 0 0, .slice (some ⟨W.heap.size, 0, none⟩) 1 1] by rw [hV]; exact (Blk.new rfl (by simp)).drew)
    have BV0 := Lib.hid (show Below W.heap.size W V by rw [hV]; exact below_drewN (((Below.refl _ _).alloc (Nat.le_refl _) _).alloc (by simp) _) 1)
    have hXN : W.heap.size + 1 ≠ W.heap.size := by omega
    rw [← hV]
    clear hV
    obtain ⟨X, hX⟩ : ∃ X, X = W.heap.size + 1 := ⟨_, rfl⟩
    rw [← hX] at KX0 hXN ⊢
    obtain ⟨NB, hNB⟩ : ∃ NB, NB = W.heap.size := ⟨_, rfl⟩
    rw [← hNB] at KN0 KX0 hXN ⊢
    have hX1 : W.heap.size ≤ X := by omega
    have hN1 : W.heap.size ≤ NB := by omega
    clear hX hNB
    have hRs2 := hRs
    have WA1 := Lib.hid (WA.out.below BV0.out)
    have KR1 := Lib.hid (KR.out.after BV0.out)
    have BV := Lib.hid (B1.out.trans (BV0.out.mono (Nat.le_of_lt hRs)))
    have hXV : X < V.heap.size := KX0.out.lt
    have hNV : NB < V.heap.size := KN0.out.lt
    have hRV : w.heap.size < V.heap.size := KR1.out.lt
    have hgV : g < V.heap.size := WA1.out.lt
    have hXg : X ≠ g := by omega
    have hNg : NB ≠ g := by omega
    have hXR : X ≠ w.heap.size := by omega
    have hNR2 : NB ≠ w.heap.size := by omega
    have hRg : w.heap.size ≠ g := by omega
    have hXw : w.heap.size ≤ X := by omega
    have hNw : w.heap.size ≤ NB := by omega
    have HRV := Lib.hid (show ∀ r, rowOf (.slice A0 nr c0') = some r → r < V.heap.size ∧ r ≠ X from fun r hr => by have := KG.out r hr; omega)
    obtain ⟨B0, hB0⟩ : ∃ B0, B0 = V.heap.size := ⟨_, rfl⟩
    rw [← hB0] at hXV hNV hRV hgV HRV
    have HB0 := Lib.hid hB0
    obtain ⟨k0, k1, k2, k3, k4, k5, k6, k7, k8, kz⟩ := WA1.out.blk.c9
    obtain ⟨x0, x1, x2, xz⟩ := KX0.out.c3
    clear hB0 hX1 hN1 hgw hRs2
    go_wp2_with fail
    go_loopw [59] (fun i wr => ∃ (p : Nat) (v2 : Value), i = .int .i64 p ∧ p ≤ nr ∧ Own oprRep wr B0 (fun _ => False) 51 v2 ((xr.take p).map (opOf lsn xt)) ∧ Blk wr X [.int .i64 lsn, v2, .slice (some ⟨NB, 0, none⟩) 1 1] ∧ Blk wr NB [.int .i64 2, .int .i64 xi, .int .i64 0, .int .i64 0, .int .i64 0, .int .i64 xc, .bool xl] ∧ Blk wr w.heap.size [.int .i64 0, .slice none 0 0, .slice none 0 0] ∧ WinAt wr S g ⟨mark, xa, xi, xt, xr, xc, xl, xn, 4⟩ (.slice A0 nr c0') ∧ Below w.heap.size w wr ∧ B0 ≤ wr.heap.size) (fun i _ => nr - (intOf i).toNat)
    case atStart => exact ⟨0, _, rfl, Nat.zero_le _, Own.nil _ _ _ (fun _ h => h.elim) _ none, KX0.out, KN0.out, KR1.out, WA1.out, BV.out, Nat.le_of_eq HB0.out⟩
    case round =>
      obtain ⟨p, v2, rfl, hp, hown, hkx, hkn, hkr, hwa, hbel, hsz⟩ := hrel
      have OW := Lib.hid hown
      have KX := Lib.hid hkx
      have KN := Lib.hid hkn
      have KRr := Lib.hid hkr
      have WAr := Lib.hid hwa
      have BE := Lib.hid hbel
      have HR2 := Lib.hid (show ∀ r, rowOf v2 = some r → B0 ≤ r from fun r hr => OW.out.row_ge hr)
      obtain ⟨x0, x1, x2, xz⟩ := KX.out.c3
      obtain ⟨k0, k1, k2, k3, k4, k5, k6, k7, k8, kz⟩ := WAr.out.blk.c9
      clear hown hkx hkn hkr hwa hbel
      by_cases hlt : p < nr
      · have hd : decide ((p : Int) < (nr : Int)) = true := decide_eq_true (by omega)
        have hpi : (p : Int) < (nr : Int) := by omega
        obtain ⟨b0, off, y, rfl, -, hy, hwf, e0, e1⟩ := WAr.out.own.sl.row hlt (fun _ _ => rfl)
        have HTK := Lib.hid (show (xr.take (p + 1)).map (opOf lsn xt) = (xr.take p).map (opOf lsn xt) ++ [opOf lsn xt y] by rw [take_snoc hy, List.map_append]; rfl)
        have HWF := Lib.hid (show (opOf lsn xt y).wf from ⟨HWI.out.2.2.2, HWI.out.2.1, hwf.1, hwf.2⟩)
        have HLE := Lib.hid (show ((xr.take p).map (opOf lsn xt)).length ≤ 100000 by rw [List.length_map, List.length_take, ← HNR.out]; omega)
        obtain ⟨yk, yv⟩ := y
        dsimp only at e0 e1
        clear hwf hy
        obtain ⟨acc, hacc⟩ : ∃ acc, acc = (xr.take p).map (opOf lsn xt) := ⟨_, rfl⟩
        rw [← hacc] at OW HTK HLE
        clear hacc
        have hle := HLE.out
        have hXr : X < wr.heap.size := by omega
        go_wp2_with fail
        obtain ⟨W1, hW1⟩ : ∃ W1, W1 = wr.alloc (.cells #[.int .i64 yk, .string yv] 55) := ⟨_, rfl⟩
        have b1 : Below wr.heap.size wr W1 := by rw [hW1]; exact (Below.refl _ _).alloc (Nat.le_refl _) _
        have OWD := Lib.hid (OW.out.below b1).drew
        have KXD := Lib.hid (KX.out.after b1).drew
        have KND := Lib.hid (KN.out.after b1).drew
        have KRD := Lib.hid (KRr.out.after b1).drew
        have WAD := Lib.hid (WAr.out.below b1).drew
        have BED := Lib.hid (below_drewN (BE.out.trans (b1.mono BE.out.size)) 1)
        have hW1s : W1.heap.size = wr.heap.size + 1 := by rw [hW1]; simp
        have j0 : W1.cell? ⟨wr.heap.size, 0, none⟩ = some (.int .i64 yk) := by rw [hW1]; exact World.cell?_alloc_at _ _ _ _ rfl
        have j1 : W1.cell? ⟨wr.heap.size, 1, none⟩ = some (.string yv) := by rw [hW1]; exact World.cell?_alloc_at _ _ _ _ rfl
        have BRR : Blk W1 wr.heap.size [.int .i64 yk, .string yv] := by rw [hW1]; exact Blk.new rfl rfl
        rw [← hW1]
        clear hW1 b1
        obtain ⟨k0, k1, k2, k3, k4, k5, k6, k7, k8, kz⟩ := (show Blk W1 g _ from WAD.out.blk).c9
        obtain ⟨x0, x1, x2, xz⟩ := (show Blk W1 X _ from KXD.out).c3
        dsimp only at k0 k1 k2 k3 k4 k5 k6 k7 k8
        have hXW1 : X < W1.drew.heap.size := KXD.out.lt
        have hsz1 : B0 ≤ W1.drew.heap.size := by show B0 ≤ W1.heap.size; omega
        have hsz2 : wr.heap.size < W1.heap.size := by omega
        clear hW1s
        have KRR := Lib.hid (show Blk W1.drew wr.heap.size [.int .i64 yk, .string yv] from BRR)
        have HRL := Lib.hid (show ∀ r, rowOf v2 = some r → r < wr.heap.size from fun r hr => OW.out.row_lt hr)
        have hA : ∀ o : Obj, (W1.alloc o).cell? ⟨g, 3, none⟩ = some (.int .i64 xt) ∧ (W1.alloc o).cell? ⟨wr.heap.size, 0, none⟩ = some (.int .i64 yk) ∧ (W1.alloc o).cell? ⟨wr.heap.size, 1, none⟩ = some (.string yv) := fun o => ⟨(WAD.out.blk.alloc o).1 3 _ rfl, (KRR.out.alloc o).1 0 _ rfl, (KRR.out.alloc o).1 1 _ rfl⟩
        have hX1 : ∀ o : Obj, (W1.alloc o).cell? ⟨X, 1, none⟩ = some v2 := fun o => (KXD.out.alloc o).1 1 _ rfl
        have HSRC := Lib.hid (show Src oprRep (W1.drew.alloc (.cells #[.int .i64 lsn, .int .i64 xt, .int .i64 yk, .bool false, .string yv] 51)) (fun _ => False) (some ⟨W1.heap.size, 0, none⟩) 1 [opOf lsn xt ⟨yk, yv⟩] from Src.new (R := oprRep) (w := W1.drew) (e := 51) (S := fun _ => False) (a := opOf lsn xt ⟨yk, yv⟩) (cs := (opOf lsn xt ⟨yk, yv⟩).cells) ⟨rfl, HWF.out⟩)
        clear BRR
        refine wp_region_held_drew (S := fun w' => w'.cell? ⟨g, 3, none⟩ = some (.int .i64 xt) ∧ w'.cell? ⟨wr.heap.size, 0, none⟩ = some (.int .i64 yk) ∧ w'.cell? ⟨wr.heap.size, 1, none⟩ = some (.string yv)) (by kernel_rfl) ⟨k3, j0, j1⟩ (fun hHeld => ?_)
        (refine wpAnyH_take (i := 0) (v := ?_) rfl (by kernel_rfl) (by kernel_rfl) (by kernel_rfl) (fun _ _ _ h => h) (Or.inl ⟨by rfl, ?_⟩) hHeld ?_; rotate_left 1; focus (intro w hSw; (try dsimp only at hSw); go_simp; try with_reducible rfl)); (try simp only [Act.put, List.setIfInBounds_toArray, List.set_cons_zero, List.set_cons_succ])
        (refine wpAnyH_take (i := 2) (v := ?_) rfl (by kernel_rfl) (by kernel_rfl) (by kernel_rfl) (fun _ _ _ h => h) (Or.inl ⟨by rfl, ?_⟩) hHeld ?_; rotate_left 1; focus (intro w hSw; (try dsimp only at hSw); go_simp; try with_reducible rfl)); (try simp only [Act.put, List.setIfInBounds_toArray, List.set_cons_zero, List.set_cons_succ])
        (refine wpAnyH_take (i := 3) (v := ?_) rfl (by kernel_rfl) (by kernel_rfl) (by kernel_rfl) (fun _ _ _ h => h) (Or.inl ⟨by rfl, ?_⟩) hHeld ?_; rotate_left 1; focus (intro w hSw; (try dsimp only at hSw); go_simp; try with_reducible rfl)); (try simp only [Act.put, List.setIfInBounds_toArray, List.set_cons_zero, List.set_cons_succ])
        (refine wpAnyH_take (i := 4) (v := ?_) rfl (by kernel_rfl) (by kernel_rfl) (by kernel_rfl) (fun _ _ _ h => h) (Or.inl ⟨by rfl, ?_⟩) hHeld ?_; rotate_left 1; focus (intro w hSw; (try dsimp only at hSw); go_simp; try with_reducible rfl)); (try simp only [Act.put, List.setIfInBounds_toArray, List.set_cons_zero, List.set_cons_succ])
        (refine wpAnyH_take (i := 5) (v := ?_) rfl (by kernel_rfl) (by kernel_rfl) (by kernel_rfl) (fun _ _ _ h => h) (Or.inl ⟨by rfl, ?_⟩) hHeld ?_; rotate_left 1; focus (intro w hSw; (try dsimp only at hSw); go_simp; try with_reducible rfl)); (try simp only [Act.put, List.setIfInBounds_toArray, List.set_cons_zero, List.set_cons_succ])
        (refine wpAnyH_take (i := 6) (v := ?_) rfl (by kernel_rfl) (by kernel_rfl) (by kernel_rfl) (fun _ _ _ h => h) (Or.inl ⟨by rfl, ?_⟩) hHeld ?_; rotate_left 1; focus (intro w hSw; (try dsimp only at hSw); go_simp; try with_reducible rfl)); (try simp only [Act.put, List.setIfInBounds_toArray, List.set_cons_zero, List.set_cons_succ])
        (refine wpAnyH_take (i := 7) (v := ?_) rfl (by kernel_rfl) (by kernel_rfl) (by kernel_rfl) (fun _ _ _ h => h) (Or.inl ⟨by rfl, ?_⟩) hHeld ?_; rotate_left 1; focus (intro w hSw; (try dsimp only at hSw); go_simp; try with_reducible rfl)); (try simp only [Act.put, List.setIfInBounds_toArray, List.set_cons_zero, List.set_cons_succ])
        (refine wpAnyH_take (i := 8) (v := ?_) rfl (by kernel_rfl) (by kernel_rfl) (by kernel_rfl) (fun _ _ _ h => h) (Or.inl ⟨by rfl, ?_⟩) hHeld ?_; rotate_left 1; focus (intro w hSw; (try dsimp only at hSw); go_simp; try with_reducible rfl)); (try simp only [Act.put, List.setIfInBounds_toArray, List.set_cons_zero, List.set_cons_succ])
        (refine wpAnyH_take (i := 9) (v := ?_) rfl (by kernel_rfl) (by kernel_rfl) (by kernel_rfl) (fun _ _ _ h => h) (Or.inl ⟨by rfl, ?_⟩) hHeld ?_; rotate_left 1; focus (intro w hSw; (try dsimp only at hSw); go_simp; try with_reducible rfl)); (try simp only [Act.put, List.setIfInBounds_toArray, List.set_cons_zero, List.set_cons_succ])
        (refine wpAnyH_take (i := 10) (v := ?_) rfl (by kernel_rfl) (by kernel_rfl) (by kernel_rfl) (fun _ _ _ h => h) (Or.inl ⟨by rfl, ?_⟩) hHeld ?_; rotate_left 1; focus (intro w hSw; (try dsimp only at hSw); go_simp; try with_reducible rfl)); (try simp only [Act.put, List.setIfInBounds_toArray, List.set_cons_zero, List.set_cons_succ])
        (refine wpAnyH_take (i := 11) (v := ?_) rfl (by kernel_rfl) (by kernel_rfl) (by kernel_rfl) (fun _ _ _ h => h) (Or.inl ⟨by rfl, ?_⟩) hHeld ?_; rotate_left 1; focus (intro w hSw; (try dsimp only at hSw); go_simp; try with_reducible rfl)); (try simp only [Act.put, List.setIfInBounds_toArray, List.set_cons_zero, List.set_cons_succ])
        (refine wpAnyH_take (i := 12) (v := ?_) rfl (by kernel_rfl) (by kernel_rfl) (by kernel_rfl) (fun _ _ _ h => h) (Or.inl ⟨by rfl, ?_⟩) hHeld ?_; rotate_left 1; focus (intro w hSw; (try dsimp only at hSw); go_simp; try with_reducible rfl)); (try simp only [Act.put, List.setIfInBounds_toArray, List.set_cons_zero, List.set_cons_succ])
        refine wpAnyH_ready (rs := [1, 13]) (by kernel_rfl) (by simp) ?_
        refine AllReadyH.cons rfl (fun K hK => ?_) (AllReadyH.cons rfl (fun K hK => ?_) AllReadyH.nil)
        · go_simp
          refine hK.out _ _ hHeld (fun _ => ?_)
          clear hK K
          refine wpAnyH_ready (rs := [13]) (by kernel_rfl) (by simp) ?_
          refine AllReadyH.cons rfl (fun K hK => ?_) AllReadyH.nil
          go_simp
          refine hK.out _ _ (hA _) (fun _ => ?_)
          clear hK K
          refine wpAnyH_ready (rs := [14]) (by kernel_rfl) (by simp) ?_
          refine AllReadyH.cons rfl (fun K hK => ?_) AllReadyH.nil
          refine step_append_Own (w := W1.drew.alloc (.cells #[.int .i64 lsn, .int .i64 xt, .int .i64 yk, .bool false, .string yv] 51)) rfl (.tmp 64) (.tmp 76) 41 rfl B0 51 i0 _ 48 Try.underlying41 hi hz0 hz1 hz2 rfl (R := oprRep) (S := fun _ => False) (l := acc) (l' := [opOf lsn xt ⟨yk, yv⟩]) v2 rfl (OWD.out.alloc _) _ 1 1 rfl HSRC.out (by simp only [maxLen]; omega) (by omega) (by omega) (by simp; omega) ?_
          intro v9 w9 own9 gr9 at9
          obtain ⟨A9, c9, hv9, hlc9, hcm9, sl9⟩ := own9.isSlB
          obtain ⟨m9, hm9⟩ : ∃ m9, m9 = (acc ++ [opOf lsn xt ⟨yk, yv⟩]).length := ⟨_, rfl⟩
          rw [← hm9] at hv9
          subst hv9
          clear hm9 hlc9 hcm9 sl9
          have KX9 := Lib.hid ((KXD.out.alloc _).grown gr9 (fun k hk e => by have := HR2.out k hk; omega))
          have KN9 := Lib.hid ((KND.out.alloc _).grown gr9 (fun k hk e => by have := HR2.out k hk; omega))
          have KR9 := Lib.hid ((KRD.out.alloc _).grown gr9 (fun k hk e => by have := HR2.out k hk; omega))
          have KRR9 := Lib.hid ((KRR.out.alloc _).grown gr9 (fun k hk e => by have := HRL.out k hk; omega))
          have WA9 := Lib.hid ((WAD.out.alloc _).grown gr9 (fun k hk => ⟨fun e => by have := HR2.out k hk; omega, fun e => by have h1 := HR2.out k hk; have h2 := (HRV.out k e).1; omega⟩))
          have BE9 := Lib.hid ((BED.out.alloc BED.out.size _).grown gr9 (by have h9 := BED.out.size; simp at h9 ⊢; omega) (fun k hk => by have := HR2.out k hk; omega))
          have OW9 := Lib.hid own9
          have hs9 : B0 ≤ w9.heap.size := by have h9 := gr9.size; have h8 := hsz1; simp at h9 h8; omega
          clear own9 gr9 at9
          obtain ⟨x0, x1, x2, xz⟩ := KX9.out.c3
          refine hK.out _ _ ⟨WA9.out.blk.1 3 _ rfl, KRR9.out.1 0 _ rfl, KRR9.out.1 1 _ rfl⟩ (fun hHeld9 => ?_)
          clear hK K
          (refine wpAnyH_take (i := 15) (v := ?_) rfl (by kernel_rfl) (by kernel_rfl) (by kernel_rfl) (fun _ _ _ h => h) (Or.inl ⟨by rfl, ?_⟩) hHeld9 ?_; rotate_left 1; focus (intro w hSw; (try dsimp only at hSw); go_simp; try with_reducible rfl)); (try simp only [Act.put, List.setIfInBounds_toArray, List.set_cons_zero, List.set_cons_succ])
          refine wpAnyH_ready (rs := [16]) (by kernel_rfl) (by simp) ?_
          refine AllReadyH.cons rfl (fun K hK => ?_) AllReadyH.nil
          go_simp
          refine hK.out _ _ ⟨(WA9.out.blk.other (Ne.symm hXg) 1 _).1 3 _ rfl, (KRR9.out.other (by omega) 1 _).1 0 _ rfl, (KRR9.out.other (by omega) 1 _).1 1 _ rfl⟩ (fun _ => ?_)
          clear hK K
          refine wpAnyH_done (by kernel_rfl) ?_ _
          go_wp2_with fail
          go_roundw
          case rel => exact ⟨p + 1, .slice A9 m9 c9, by go_num, by omega, by rw [HTK.out]; exact OW9.out.kept (grownBy_set w9 ⟨X, 1, none⟩ _) (fun k hk => ⟨fun e => (by have h1 := OW9.out.row_ge e; injection hk with hk; dsimp only at hk; omega), id⟩), KX9.out.put (by simp) _ rfl, KN9.out.other (Ne.symm hXN) 1 _, KR9.out.other (Ne.symm hXR) 1 _, WA9.out.grown (grownBy_set w9 ⟨X, 1, none⟩ _) (fun k hk => by injection hk with hk; dsimp only at hk; subst hk; exact ⟨hXg, fun e => (HRV.out X e).2 rfl⟩), BE9.out.setCell hXw _, by simpa using hs9⟩
          case measure => simp [intOf]; omega
        · go_simp
          refine hK.out _ _ (hA _) (fun _ => ?_)
          clear hK K
          refine wpAnyH_ready (rs := [1]) (by kernel_rfl) (by simp) ?_
          refine AllReadyH.cons rfl (fun K hK => ?_) AllReadyH.nil
          go_simp
          refine hK.out _ _ (hA _) (fun _ => ?_)
          clear hK K
          refine wpAnyH_ready (rs := [14]) (by kernel_rfl) (by simp) ?_
          refine AllReadyH.cons rfl (fun K hK => ?_) AllReadyH.nil
          refine step_append_Own (w := W1.drew.alloc (.cells #[.int .i64 lsn, .int .i64 xt, .int .i64 yk, .bool false, .string yv] 51)) rfl (.tmp 64) (.tmp 76) 41 rfl B0 51 i0 _ 48 Try.underlying41 hi hz0 hz1 hz2 rfl (R := oprRep) (S := fun _ => False) (l := acc) (l' := [opOf lsn xt ⟨yk, yv⟩]) v2 rfl (OWD.out.alloc _) _ 1 1 rfl HSRC.out (by simp only [maxLen]; omega) (by omega) (by omega) (by simp; omega) ?_
          intro v9 w9 own9 gr9 at9
          obtain ⟨A9, c9, hv9, hlc9, hcm9, sl9⟩ := own9.isSlB
          obtain ⟨m9, hm9⟩ : ∃ m9, m9 = (acc ++ [opOf lsn xt ⟨yk, yv⟩]).length := ⟨_, rfl⟩
          rw [← hm9] at hv9
          subst hv9
          clear hm9 hlc9 hcm9 sl9
          have KX9 := Lib.hid ((KXD.out.alloc _).grown gr9 (fun k hk e => by have := HR2.out k hk; omega))
          have KN9 := Lib.hid ((KND.out.alloc _).grown gr9 (fun k hk e => by have := HR2.out k hk; omega))
          have KR9 := Lib.hid ((KRD.out.alloc _).grown gr9 (fun k hk e => by have := HR2.out k hk; omega))
          have KRR9 := Lib.hid ((KRR.out.alloc _).grown gr9 (fun k hk e => by have := HRL.out k hk; omega))
          have WA9 := Lib.hid ((WAD.out.alloc _).grown gr9 (fun k hk => ⟨fun e => by have := HR2.out k hk; omega, fun e => by have h1 := HR2.out k hk; have h2 := (HRV.out k e).1; omega⟩))
          have BE9 := Lib.hid ((BED.out.alloc BED.out.size _).grown gr9 (by have h9 := BED.out.size; simp at h9 ⊢; omega) (fun k hk => by have := HR2.out k hk; omega))
          have OW9 := Lib.hid own9
          have hs9 : B0 ≤ w9.heap.size := by have h9 := gr9.size; have h8 := hsz1; simp at h9 h8; omega
          clear own9 gr9 at9
          obtain ⟨x0, x1, x2, xz⟩ := KX9.out.c3
          refine hK.out _ _ ⟨WA9.out.blk.1 3 _ rfl, KRR9.out.1 0 _ rfl, KRR9.out.1 1 _ rfl⟩ (fun hHeld9 => ?_)
          clear hK K
          (refine wpAnyH_take (i := 15) (v := ?_) rfl (by kernel_rfl) (by kernel_rfl) (by kernel_rfl) (fun _ _ _ h => h) (Or.inl ⟨by rfl, ?_⟩) hHeld9 ?_; rotate_left 1; focus (intro w hSw; (try dsimp only at hSw); go_simp; try with_reducible rfl)); (try simp only [Act.put, List.setIfInBounds_toArray, List.set_cons_zero, List.set_cons_succ])
          refine wpAnyH_ready (rs := [16]) (by kernel_rfl) (by simp) ?_
          refine AllReadyH.cons rfl (fun K hK => ?_) AllReadyH.nil
          go_simp
          refine hK.out _ _ ⟨(WA9.out.blk.other (Ne.symm hXg) 1 _).1 3 _ rfl, (KRR9.out.other (by omega) 1 _).1 0 _ rfl, (KRR9.out.other (by omega) 1 _).1 1 _ rfl⟩ (fun _ => ?_)
          clear hK K
          refine wpAnyH_done (by kernel_rfl) ?_ _
          go_wp2_with fail
          go_roundw
          case rel => exact ⟨p + 1, .slice A9 m9 c9, by go_num, by omega, by rw [HTK.out]; exact OW9.out.kept (grownBy_set w9 ⟨X, 1, none⟩ _) (fun k hk => ⟨fun e => (by have h1 := OW9.out.row_ge e; injection hk with hk; dsimp only at hk; omega), id⟩), KX9.out.put (by simp) _ rfl, KN9.out.other (Ne.symm hXN) 1 _, KR9.out.other (Ne.symm hXR) 1 _, WA9.out.grown (grownBy_set w9 ⟨X, 1, none⟩ _) (fun k hk => by injection hk with hk; dsimp only at hk; subst hk; exact ⟨hXg, fun e => (HRV.out X e).2 rfl⟩), BE9.out.setCell hXw _, by simpa using hs9⟩
          case measure => simp [intOf]; omega
      · obtain rfl : p = nr := by omega
        have hd : decide ((p : Int) < (p : Int)) = false := by simp
        obtain ⟨Av, cv, hv2, _, _, _⟩ := OW.out.isSlB
        obtain ⟨mv, hmv⟩ : ∃ mv, mv = ((xr.take p).map (opOf lsn xt)).length := ⟨_, rfl⟩
        rw [← hmv] at hv2
        subst hv2
        clear hmv
        obtain ⟨r0, r1, r2, rz⟩ := KRr.out.c3
        have hgX : g ≠ X := Ne.symm hXg
        have hgR : g ≠ w.heap.size := Ne.symm hRg
        have hRX : w.heap.size ≠ X := Ne.symm hXR
        have HNC := Lib.hid (show (xr.take p).map (opOf lsn xt) = xr.map (opOf lsn xt) by rw [List.take_of_length_le (by rw [← HNR.out]; exact Nat.le_refl _)])
        have SLO := Lib.hid (OW.out.isSl (S' := fun k => B0 ≤ k ∧ k < wr.heap.size) (fun _ h => h.elim) (fun k h1 h2 => ⟨h1, h2⟩))
        iterate 63 (first | go_values | go_skip | go_guarded | go_step | go_upon | go_back)
        obtain ⟨Z, hZ⟩ : ∃ Z, Z = ((((((((((wr.setCell ⟨g, 0, none⟩ (.int .i64 0)).setCell ⟨g, 1, none⟩ (.int .i64 0)).setCell ⟨g, 2, none⟩ (.int .i64 0)).setCell ⟨g, 3, none⟩ (.int .i64 0)).setCell ⟨g, 4, none⟩ (.slice none 0 0)).setCell ⟨g, 5, none⟩ (.int .i64 0)).setCell ⟨g, 6, none⟩ (.bool false)).setCell ⟨g, 8, none⟩ (.int .i64 0)).setCell ⟨w.heap.size, 0, none⟩ (.int .i64 lsn)).setCell ⟨w.heap.size, 1, none⟩ (.slice Av mv cv)).setCell ⟨w.heap.size, 2, none⟩ (.slice (some ⟨NB, 0, none⟩) 1 1) := ⟨_, rfl⟩
        have KRz := Lib.hid (show Blk Z w.heap.size [.int .i64 lsn, .slice Av mv cv, .slice (some ⟨NB, 0, none⟩) 1 1] by
          rw [hZ]
          exact (((((((((((KRr.out.other hRg 0 _).other hRg 1 _).other hRg 2 _).other hRg 3 _).other hRg 4 _).other hRg 5 _).other hRg 6 _).other hRg 8 _).put (j := 0) (by simp) _ rfl).put (j := 1) (by simp) _ rfl).put (j := 2) (by simp) _ rfl))
        have KGz := Lib.hid (show Blk Z g [.int .i64 0, .int .i64 0, .int .i64 0, .int .i64 0, .slice none 0 0, .int .i64 0, .bool false, .int .i64 xn, .int .i64 0] by
          rw [hZ]
          exact ((((((((((WAr.out.blk.put (j := 0) (by simp) _ rfl).put (j := 1) (by simp) _ rfl).put (j := 2) (by simp) _ rfl).put (j := 3) (by simp) _ rfl).put (j := 4) (by simp) _ rfl).put (j := 5) (by simp) _ rfl).put (j := 6) (by simp) _ rfl).put (j := 8) (by simp) _ rfl).other hgR 0 _).other hgR 1 _).other hgR 2 _)
        have RZ := Lib.hid (show Rest (fun k => k ≠ g ∧ k ≠ w.heap.size) wr Z by
          rw [hZ]
          have hG : ¬ (g ≠ g ∧ g ≠ w.heap.size) := fun h => h.1 rfl
          have hR : ¬ (w.heap.size ≠ g ∧ w.heap.size ≠ w.heap.size) := fun h => h.2 rfl
          exact ((((((((((((Rest.refl _ wr).set hG 0 _).set hG 1 _).set hG 2 _).set hG 3 _).set hG 4 _).set hG 5 _).set hG 6 _).set hG 8 _).set hR 0 _).set hR 1 _).set hR 2 _))
        have SZ := Lib.hid (show Rest S w Z by
          rw [hZ]
          have hG : ¬ S g := WAr.out.ng
          have hR : ¬ S w.heap.size := fun h => Nat.lt_irrefl _ (hS _ h)
          exact (((((((((((((Rest.refl S w).below hS BE.out).set hG 0 _).set hG 1 _).set hG 2 _).set hG 3 _).set hG 4 _).set hG 5 _).set hG 6 _).set hG 8 _).set hR 0 _).set hR 1 _).set hR 2 _))
        obtain ⟨z0, z1, z2, zz⟩ := KRz.out.c3
        rw [← hZ]
        clear hZ r0 r1 r2 rz x0 x1 x2 xz k0 k1 k2 k3 k4 k5 k6 k7 k8 kz
        go_wp2_with fail
        refine bodyPost_ret (by simp [results, Try.results28, go_sem, z0, z1, z2]; try rfl) rfl ?_
        obtain ⟨A9, c9, hv9, _, _, sl9⟩ := SLO.out
        injection hv9 with q1 q2 q3
        subst q1
        have hws := BE.out.size
        have hwz := RZ.out.size
        rw [← q2, HNC.out] at sl9
        refine ⟨_, rfl, ⟨_, _, _, _, _, _, by rw [HTELL.out], ?_, ?_⟩, ⟨_, KGz.out, Own.nil _ _ _ (fun _ h => h.elim) _ none, WAr.out.ng, fun r hr => by simp [rowOf] at hr⟩, SZ.out⟩
        · rw [HTELL.out]
          exact (sl9.rest RZ.out (fun k hk => ⟨by omega, by omega⟩)).weak (fun k hk => ⟨by omega, by omega⟩)
        · rw [HTELL.out]
          exact IsSl.ofBlk1 (KN.out.rest RZ.out ⟨hNg, hNR2⟩) ⟨rfl, note_wf HWI.out.1 HWI.out.2.2.1⟩ ⟨hNw, by have := (KN.out.rest RZ.out ⟨hNg, hNR2⟩).lt; exact this⟩
  · obtain ⟨V, hV⟩ : ∃ V, V = ((W.alloc (.cells #[.int .i64 lsn, .slice none 0 0, .slice (some ⟨W.heap.size + 1, 0, none⟩) 1 1] 44)).alloc (.cells #[.int .i64 2, .int .i64 xi, .int .i64 0, .int .i64 0, .int .i64 0, .int .i64 xc, .bool xl] 57)).drew := ⟨_, rfl⟩
    have KN0 := Lib.hid (show Blk V (W.heap.size + 1) [.int .i64 2, .int .i64 xi, .int .i64 0, .int .i64 0, .int .i64 0, .int .i64 xc, .bool xl] by rw [hV]; exact (Blk.new rfl (by simp)).drew)
    have KX0 := Lib.hid (show Blk V (W.heap.size) [.int .i64 lsn, .slice none 0 0, .slice (some ⟨W.heap.size + 1, 0, none⟩) 1 1] by rw [hV]; exact ((Blk.new rfl rfl).alloc _).drew)
    have BV0 := Lib.hid (show Below W.heap.size W V by rw [hV]; exact below_drewN (((Below.refl _ _).alloc (Nat.le_refl _) _).alloc (by simp) _) 1)
    have hXN : W.heap.size ≠ W.heap.size + 1 := by omega
    rw [← hV]
    clear hV
    obtain ⟨NB, hNB⟩ : ∃ NB, NB = W.heap.size + 1 := ⟨_, rfl⟩
    rw [← hNB] at KX0 KN0 hXN ⊢
    obtain ⟨X, hX⟩ : ∃ X, X = W.heap.size := ⟨_, rfl⟩
    rw [← hX] at KX0 hXN ⊢
    have hX1 : W.heap.size ≤ X := by omega
    have hN1 : W.heap.size ≤ NB := by omega
    clear hX hNB
    have hRs2 := hRs
    have WA1 := Lib.hid (WA.out.below BV0.out)
    have KR1 := Lib.hid (KR.out.after BV0.out)
    have BV := Lib.hid (B1.out.trans (BV0.out.mono (Nat.le_of_lt hRs)))
    have hXV : X < V.heap.size := KX0.out.lt
    have hNV : NB < V.heap.size := KN0.out.lt
    have hRV : w.heap.size < V.heap.size := KR1.out.lt
    have hgV : g < V.heap.size := WA1.out.lt
    have hXg : X ≠ g := by omega
    have hNg : NB ≠ g := by omega
    have hXR : X ≠ w.heap.size := by omega
    have hNR2 : NB ≠ w.heap.size := by omega
    have hRg : w.heap.size ≠ g := by omega
    have hXw : w.heap.size ≤ X := by omega
    have hNw : w.heap.size ≤ NB := by omega
    have HRV := Lib.hid (show ∀ r, rowOf (.slice A0 nr c0') = some r → r < V.heap.size ∧ r ≠ X from fun r hr => by have := KG.out r hr; omega)
    obtain ⟨B0, hB0⟩ : ∃ B0, B0 = V.heap.size := ⟨_, rfl⟩
    rw [← hB0] at hXV hNV hRV hgV HRV
    have HB0 := Lib.hid hB0
    obtain ⟨k0, k1, k2, k3, k4, k5, k6, k7, k8, kz⟩ := WA1.out.blk.c9
    obtain ⟨x0, x1, x2, xz⟩ := KX0.out.c3
    clear hB0 hX1 hN1 hgw hRs2
    go_wp2_with fail
    go_loopw [59] (fun i wr => ∃ (p : Nat) (v2 : Value), i = .int .i64 p ∧ p ≤ nr ∧ Own oprRep wr B0 (fun _ => False) 51 v2 ((xr.take p).map (opOf lsn xt)) ∧ Blk wr X [.int .i64 lsn, v2, .slice (some ⟨NB, 0, none⟩) 1 1] ∧ Blk wr NB [.int .i64 2, .int .i64 xi, .int .i64 0, .int .i64 0, .int .i64 0, .int .i64 xc, .bool xl] ∧ Blk wr w.heap.size [.int .i64 0, .slice none 0 0, .slice none 0 0] ∧ WinAt wr S g ⟨mark, xa, xi, xt, xr, xc, xl, xn, 4⟩ (.slice A0 nr c0') ∧ Below w.heap.size w wr ∧ B0 ≤ wr.heap.size) (fun i _ => nr - (intOf i).toNat)
    case atStart => exact ⟨0, _, rfl, Nat.zero_le _, Own.nil _ _ _ (fun _ h => h.elim) _ none, KX0.out, KN0.out, KR1.out, WA1.out, BV.out, Nat.le_of_eq HB0.out⟩
    case round =>
      obtain ⟨p, v2, rfl, hp, hown, hkx, hkn, hkr, hwa, hbel, hsz⟩ := hrel
      have OW := Lib.hid hown
      have KX := Lib.hid hkx
      have KN := Lib.hid hkn
      have KRr := Lib.hid hkr
      have WAr := Lib.hid hwa
      have BE := Lib.hid hbel
      have HR2 := Lib.hid (show ∀ r, rowOf v2 = some r → B0 ≤ r from fun r hr => OW.out.row_ge hr)
      obtain ⟨x0, x1, x2, xz⟩ := KX.out.c3
      obtain ⟨k0, k1, k2, k3, k4, k5, k6, k7, k8, kz⟩ := WAr.out.blk.c9
      clear hown hkx hkn hkr hwa hbel
      by_cases hlt : p < nr
      · have hd : decide ((p : Int) < (nr : Int)) = true := decide_eq_true (by omega)
        have hpi : (p : Int) < (nr : Int) := by omega
        obtain ⟨b0, off, y, rfl, -, hy, hwf, e0, e1⟩ := WAr.out.own.sl.row hlt (fun _ _ => rfl)
        have HTK := Lib.hid (show (xr.take (p + 1)).map (opOf lsn xt) = (xr.take p).map (opOf lsn xt) ++ [opOf lsn xt y] by rw [take_snoc hy, List.map_append]; rfl)
        have HWF := Lib.hid (show (opOf lsn xt y).wf from ⟨HWI.out.2.2.2, HWI.out.2.1, hwf.1, hwf.2⟩)
        have HLE := Lib.hid (show ((xr.take p).map (opOf lsn xt)).length ≤ 100000 by rw [List.length_map, List.length_take, ← HNR.out]; omega)
        obtain ⟨yk, yv⟩ := y
        dsimp only at e0 e1
        clear hwf hy
        obtain ⟨acc, hacc⟩ : ∃ acc, acc = (xr.take p).map (opOf lsn xt) := ⟨_, rfl⟩
        rw [← hacc] at OW HTK HLE
        clear hacc
        have hle := HLE.out
        have hXr : X < wr.heap.size := by omega
        go_wp2_with fail
        obtain ⟨W1, hW1⟩ : ∃ W1, W1 = wr.alloc (.cells #[.int .i64 yk, .string yv] 55) := ⟨_, rfl⟩
        have b1 : Below wr.heap.size wr W1 := by rw [hW1]; exact (Below.refl _ _).alloc (Nat.le_refl _) _
        have OWD := Lib.hid (OW.out.below b1).drew
        have KXD := Lib.hid (KX.out.after b1).drew
        have KND := Lib.hid (KN.out.after b1).drew
        have KRD := Lib.hid (KRr.out.after b1).drew
        have WAD := Lib.hid (WAr.out.below b1).drew
        have BED := Lib.hid (below_drewN (BE.out.trans (b1.mono BE.out.size)) 1)
        have hW1s : W1.heap.size = wr.heap.size + 1 := by rw [hW1]; simp
        have j0 : W1.cell? ⟨wr.heap.size, 0, none⟩ = some (.int .i64 yk) := by rw [hW1]; exact World.cell?_alloc_at _ _ _ _ rfl
        have j1 : W1.cell? ⟨wr.heap.size, 1, none⟩ = some (.string yv) := by rw [hW1]; exact World.cell?_alloc_at _ _ _ _ rfl
        have BRR : Blk W1 wr.heap.size [.int .i64 yk, .string yv] := by rw [hW1]; exact Blk.new rfl rfl
        rw [← hW1]
        clear hW1 b1
        obtain ⟨k0, k1, k2, k3, k4, k5, k6, k7, k8, kz⟩ := (show Blk W1 g _ from WAD.out.blk).c9
        obtain ⟨x0, x1, x2, xz⟩ := (show Blk W1 X _ from KXD.out).c3
        dsimp only at k0 k1 k2 k3 k4 k5 k6 k7 k8
        have hXW1 : X < W1.drew.heap.size := KXD.out.lt
        have hsz1 : B0 ≤ W1.drew.heap.size := by show B0 ≤ W1.heap.size; omega
        have hsz2 : wr.heap.size < W1.heap.size := by omega
        clear hW1s
        have KRR := Lib.hid (show Blk W1.drew wr.heap.size [.int .i64 yk, .string yv] from BRR)
        have HRL := Lib.hid (show ∀ r, rowOf v2 = some r → r < wr.heap.size from fun r hr => OW.out.row_lt hr)
        have hA : ∀ o : Obj, (W1.alloc o).cell? ⟨g, 3, none⟩ = some (.int .i64 xt) ∧ (W1.alloc o).cell? ⟨wr.heap.size, 0, none⟩ = some (.int .i64 yk) ∧ (W1.alloc o).cell? ⟨wr.heap.size, 1, none⟩ = some (.string yv) := fun o => ⟨(WAD.out.blk.alloc o).1 3 _ rfl, (KRR.out.alloc o).1 0 _ rfl, (KRR.out.alloc o).1 1 _ rfl⟩
        have hX1 : ∀ o : Obj, (W1.alloc o).cell? ⟨X, 1, none⟩ = some v2 := fun o => (KXD.out.alloc o).1 1 _ rfl
        have HSRC := Lib.hid (show Src oprRep (W1.drew.alloc (.cells #[.int .i64 lsn, .int .i64 xt, .int .i64 yk, .bool false, .string yv] 51)) (fun _ => False) (some ⟨W1.heap.size, 0, none⟩) 1 [opOf lsn xt ⟨yk, yv⟩] from Src.new (R := oprRep) (w := W1.drew) (e := 51) (S := fun _ => False) (a := opOf lsn xt ⟨yk, yv⟩) (cs := (opOf lsn xt ⟨yk, yv⟩).cells) ⟨rfl, HWF.out⟩)
        clear BRR
        refine wp_region_held_drew (S := fun w' => w'.cell? ⟨g, 3, none⟩ = some (.int .i64 xt) ∧ w'.cell? ⟨wr.heap.size, 0, none⟩ = some (.int .i64 yk) ∧ w'.cell? ⟨wr.heap.size, 1, none⟩ = some (.string yv)) (by kernel_rfl) ⟨k3, j0, j1⟩ (fun hHeld => ?_)
        (refine wpAnyH_take (i := 0) (v := ?_) rfl (by kernel_rfl) (by kernel_rfl) (by kernel_rfl) (fun _ _ _ h => h) (Or.inl ⟨by rfl, ?_⟩) hHeld ?_; rotate_left 1; focus (intro w hSw; (try dsimp only at hSw); go_simp; try with_reducible rfl)); (try simp only [Act.put, List.setIfInBounds_toArray, List.set_cons_zero, List.set_cons_succ])
        (refine wpAnyH_take (i := 2) (v := ?_) rfl (by kernel_rfl) (by kernel_rfl) (by kernel_rfl) (fun _ _ _ h => h) (Or.inl ⟨by rfl, ?_⟩) hHeld ?_; rotate_left 1; focus (intro w hSw; (try dsimp only at hSw); go_simp; try with_reducible rfl)); (try simp only [Act.put, List.setIfInBounds_toArray, List.set_cons_zero, List.set_cons_succ])
        (refine wpAnyH_take (i := 3) (v := ?_) rfl (by kernel_rfl) (by kernel_rfl) (by kernel_rfl) (fun _ _ _ h => h) (Or.inl ⟨by rfl, ?_⟩) hHeld ?_; rotate_left 1; focus (intro w hSw; (try dsimp only at hSw); go_simp; try with_reducible rfl)); (try simp only [Act.put, List.setIfInBounds_toArray, List.set_cons_zero, List.set_cons_succ])
        (refine wpAnyH_take (i := 4) (v := ?_) rfl (by kernel_rfl) (by kernel_rfl) (by kernel_rfl) (fun _ _ _ h => h) (Or.inl ⟨by rfl, ?_⟩) hHeld ?_; rotate_left 1; focus (intro w hSw; (try dsimp only at hSw); go_simp; try with_reducible rfl)); (try simp only [Act.put, List.setIfInBounds_toArray, List.set_cons_zero, List.set_cons_succ])
        (refine wpAnyH_take (i := 5) (v := ?_) rfl (by kernel_rfl) (by kernel_rfl) (by kernel_rfl) (fun _ _ _ h => h) (Or.inl ⟨by rfl, ?_⟩) hHeld ?_; rotate_left 1; focus (intro w hSw; (try dsimp only at hSw); go_simp; try with_reducible rfl)); (try simp only [Act.put, List.setIfInBounds_toArray, List.set_cons_zero, List.set_cons_succ])
        (refine wpAnyH_take (i := 6) (v := ?_) rfl (by kernel_rfl) (by kernel_rfl) (by kernel_rfl) (fun _ _ _ h => h) (Or.inl ⟨by rfl, ?_⟩) hHeld ?_; rotate_left 1; focus (intro w hSw; (try dsimp only at hSw); go_simp; try with_reducible rfl)); (try simp only [Act.put, List.setIfInBounds_toArray, List.set_cons_zero, List.set_cons_succ])
        (refine wpAnyH_take (i := 7) (v := ?_) rfl (by kernel_rfl) (by kernel_rfl) (by kernel_rfl) (fun _ _ _ h => h) (Or.inl ⟨by rfl, ?_⟩) hHeld ?_; rotate_left 1; focus (intro w hSw; (try dsimp only at hSw); go_simp; try with_reducible rfl)); (try simp only [Act.put, List.setIfInBounds_toArray, List.set_cons_zero, List.set_cons_succ])
        (refine wpAnyH_take (i := 8) (v := ?_) rfl (by kernel_rfl) (by kernel_rfl) (by kernel_rfl) (fun _ _ _ h => h) (Or.inl ⟨by rfl, ?_⟩) hHeld ?_; rotate_left 1; focus (intro w hSw; (try dsimp only at hSw); go_simp; try with_reducible rfl)); (try simp only [Act.put, List.setIfInBounds_toArray, List.set_cons_zero, List.set_cons_succ])
        (refine wpAnyH_take (i := 9) (v := ?_) rfl (by kernel_rfl) (by kernel_rfl) (by kernel_rfl) (fun _ _ _ h => h) (Or.inl ⟨by rfl, ?_⟩) hHeld ?_; rotate_left 1; focus (intro w hSw; (try dsimp only at hSw); go_simp; try with_reducible rfl)); (try simp only [Act.put, List.setIfInBounds_toArray, List.set_cons_zero, List.set_cons_succ])
        (refine wpAnyH_take (i := 10) (v := ?_) rfl (by kernel_rfl) (by kernel_rfl) (by kernel_rfl) (fun _ _ _ h => h) (Or.inl ⟨by rfl, ?_⟩) hHeld ?_; rotate_left 1; focus (intro w hSw; (try dsimp only at hSw); go_simp; try with_reducible rfl)); (try simp only [Act.put, List.setIfInBounds_toArray, List.set_cons_zero, List.set_cons_succ])
        (refine wpAnyH_take (i := 11) (v := ?_) rfl (by kernel_rfl) (by kernel_rfl) (by kernel_rfl) (fun _ _ _ h => h) (Or.inl ⟨by rfl, ?_⟩) hHeld ?_; rotate_left 1; focus (intro w hSw; (try dsimp only at hSw); go_simp; try with_reducible rfl)); (try simp only [Act.put, List.setIfInBounds_toArray, List.set_cons_zero, List.set_cons_succ])
        (refine wpAnyH_take (i := 12) (v := ?_) rfl (by kernel_rfl) (by kernel_rfl) (by kernel_rfl) (fun _ _ _ h => h) (Or.inl ⟨by rfl, ?_⟩) hHeld ?_; rotate_left 1; focus (intro w hSw; (try dsimp only at hSw); go_simp; try with_reducible rfl)); (try simp only [Act.put, List.setIfInBounds_toArray, List.set_cons_zero, List.set_cons_succ])
        refine wpAnyH_ready (rs := [1, 13]) (by kernel_rfl) (by simp) ?_
        refine AllReadyH.cons rfl (fun K hK => ?_) (AllReadyH.cons rfl (fun K hK => ?_) AllReadyH.nil)
        · go_simp
          refine hK.out _ _ hHeld (fun _ => ?_)
          clear hK K
          refine wpAnyH_ready (rs := [13]) (by kernel_rfl) (by simp) ?_
          refine AllReadyH.cons rfl (fun K hK => ?_) AllReadyH.nil
          go_simp
          refine hK.out _ _ (hA _) (fun _ => ?_)
          clear hK K
          refine wpAnyH_ready (rs := [14]) (by kernel_rfl) (by simp) ?_
          refine AllReadyH.cons rfl (fun K hK => ?_) AllReadyH.nil
          refine step_append_Own (w := W1.drew.alloc (.cells #[.int .i64 lsn, .int .i64 xt, .int .i64 yk, .bool false, .string yv] 51)) rfl (.tmp 64) (.tmp 76) 41 rfl B0 51 i0 _ 48 Try.underlying41 hi hz0 hz1 hz2 rfl (R := oprRep) (S := fun _ => False) (l := acc) (l' := [opOf lsn xt ⟨yk, yv⟩]) v2 rfl (OWD.out.alloc _) _ 1 1 rfl HSRC.out (by simp only [maxLen]; omega) (by omega) (by omega) (by simp; omega) ?_
          intro v9 w9 own9 gr9 at9
          obtain ⟨A9, c9, hv9, hlc9, hcm9, sl9⟩ := own9.isSlB
          obtain ⟨m9, hm9⟩ : ∃ m9, m9 = (acc ++ [opOf lsn xt ⟨yk, yv⟩]).length := ⟨_, rfl⟩
          rw [← hm9] at hv9
          subst hv9
          clear hm9 hlc9 hcm9 sl9
          have KX9 := Lib.hid ((KXD.out.alloc _).grown gr9 (fun k hk e => by have := HR2.out k hk; omega))
          have KN9 := Lib.hid ((KND.out.alloc _).grown gr9 (fun k hk e => by have := HR2.out k hk; omega))
          have KR9 := Lib.hid ((KRD.out.alloc _).grown gr9 (fun k hk e => by have := HR2.out k hk; omega))
          have KRR9 := Lib.hid ((KRR.out.alloc _).grown gr9 (fun k hk e => by have := HRL.out k hk; omega))
          have WA9 := Lib.hid ((WAD.out.alloc _).grown gr9 (fun k hk => ⟨fun e => by have := HR2.out k hk; omega, fun e => by have h1 := HR2.out k hk; have h2 := (HRV.out k e).1; omega⟩))
          have BE9 := Lib.hid ((BED.out.alloc BED.out.size _).grown gr9 (by have h9 := BED.out.size; simp at h9 ⊢; omega) (fun k hk => by have := HR2.out k hk; omega))
          have OW9 := Lib.hid own9
          have hs9 : B0 ≤ w9.heap.size := by have h9 := gr9.size; have h8 := hsz1; simp at h9 h8; omega
          clear own9 gr9 at9
          obtain ⟨x0, x1, x2, xz⟩ := KX9.out.c3
          refine hK.out _ _ ⟨WA9.out.blk.1 3 _ rfl, KRR9.out.1 0 _ rfl, KRR9.out.1 1 _ rfl⟩ (fun hHeld9 => ?_)
          clear hK K
          (refine wpAnyH_take (i := 15) (v := ?_) rfl (by kernel_rfl) (by kernel_rfl) (by kernel_rfl) (fun _ _ _ h => h) (Or.inl ⟨by rfl, ?_⟩) hHeld9 ?_; rotate_left 1; focus (intro w hSw; (try dsimp only at hSw); go_simp; try with_reducible rfl)); (try simp only [Act.put, List.setIfInBounds_toArray, List.set_cons_zero, List.set_cons_succ])
          refine wpAnyH_ready (rs := [16]) (by kernel_rfl) (by simp) ?_
          refine AllReadyH.cons rfl (fun K hK => ?_) AllReadyH.nil
          go_simp
          refine hK.out _ _ ⟨(WA9.out.blk.other (Ne.symm hXg) 1 _).1 3 _ rfl, (KRR9.out.other (by omega) 1 _).1 0 _ rfl, (KRR9.out.other (by omega) 1 _).1 1 _ rfl⟩ (fun _ => ?_)
          clear hK K
          refine wpAnyH_done (by kernel_rfl) ?_ _
          go_wp2_with fail
          go_roundw
          case rel => exact ⟨p + 1, .slice A9 m9 c9, by go_num, by omega, by rw [HTK.out]; exact OW9.out.kept (grownBy_set w9 ⟨X, 1, none⟩ _) (fun k hk => ⟨fun e => (by have h1 := OW9.out.row_ge e; injection hk with hk; dsimp only at hk; omega), id⟩), KX9.out.put (by simp) _ rfl, KN9.out.other (Ne.symm hXN) 1 _, KR9.out.other (Ne.symm hXR) 1 _, WA9.out.grown (grownBy_set w9 ⟨X, 1, none⟩ _) (fun k hk => by injection hk with hk; dsimp only at hk; subst hk; exact ⟨hXg, fun e => (HRV.out X e).2 rfl⟩), BE9.out.setCell hXw _, by simpa using hs9⟩
          case measure => simp [intOf]; omega
        · go_simp
          refine hK.out _ _ (hA _) (fun _ => ?_)
          clear hK K
          refine wpAnyH_ready (rs := [1]) (by kernel_rfl) (by simp) ?_
          refine AllReadyH.cons rfl (fun K hK => ?_) AllReadyH.nil
          go_simp
          refine hK.out _ _ (hA _) (fun _ => ?_)
          clear hK K
          refine wpAnyH_ready (rs := [14]) (by kernel_rfl) (by simp) ?_
          refine AllReadyH.cons rfl (fun K hK => ?_) AllReadyH.nil
          refine step_append_Own (w := W1.drew.alloc (.cells #[.int .i64 lsn, .int .i64 xt, .int .i64 yk, .bool false, .string yv] 51)) rfl (.tmp 64) (.tmp 76) 41 rfl B0 51 i0 _ 48 Try.underlying41 hi hz0 hz1 hz2 rfl (R := oprRep) (S := fun _ => False) (l := acc) (l' := [opOf lsn xt ⟨yk, yv⟩]) v2 rfl (OWD.out.alloc _) _ 1 1 rfl HSRC.out (by simp only [maxLen]; omega) (by omega) (by omega) (by simp; omega) ?_
          intro v9 w9 own9 gr9 at9
          obtain ⟨A9, c9, hv9, hlc9, hcm9, sl9⟩ := own9.isSlB
          obtain ⟨m9, hm9⟩ : ∃ m9, m9 = (acc ++ [opOf lsn xt ⟨yk, yv⟩]).length := ⟨_, rfl⟩
          rw [← hm9] at hv9
          subst hv9
          clear hm9 hlc9 hcm9 sl9
          have KX9 := Lib.hid ((KXD.out.alloc _).grown gr9 (fun k hk e => by have := HR2.out k hk; omega))
          have KN9 := Lib.hid ((KND.out.alloc _).grown gr9 (fun k hk e => by have := HR2.out k hk; omega))
          have KR9 := Lib.hid ((KRD.out.alloc _).grown gr9 (fun k hk e => by have := HR2.out k hk; omega))
          have KRR9 := Lib.hid ((KRR.out.alloc _).grown gr9 (fun k hk e => by have := HRL.out k hk; omega))
          have WA9 := Lib.hid ((WAD.out.alloc _).grown gr9 (fun k hk => ⟨fun e => by have := HR2.out k hk; omega, fun e => by have h1 := HR2.out k hk; have h2 := (HRV.out k e).1; omega⟩))
          have BE9 := Lib.hid ((BED.out.alloc BED.out.size _).grown gr9 (by have h9 := BED.out.size; simp at h9 ⊢; omega) (fun k hk => by have := HR2.out k hk; omega))
          have OW9 := Lib.hid own9
          have hs9 : B0 ≤ w9.heap.size := by have h9 := gr9.size; have h8 := hsz1; simp at h9 h8; omega
          clear own9 gr9 at9
          obtain ⟨x0, x1, x2, xz⟩ := KX9.out.c3
          refine hK.out _ _ ⟨WA9.out.blk.1 3 _ rfl, KRR9.out.1 0 _ rfl, KRR9.out.1 1 _ rfl⟩ (fun hHeld9 => ?_)
          clear hK K
          (refine wpAnyH_take (i := 15) (v := ?_) rfl (by kernel_rfl) (by kernel_rfl) (by kernel_rfl) (fun _ _ _ h => h) (Or.inl ⟨by rfl, ?_⟩) hHeld9 ?_; rotate_left 1; focus (intro w hSw; (try dsimp only at hSw); go_simp; try with_reducible rfl)); (try simp only [Act.put, List.setIfInBounds_toArray, List.set_cons_zero, List.set_cons_succ])
          refine wpAnyH_ready (rs := [16]) (by kernel_rfl) (by simp) ?_
          refine AllReadyH.cons rfl (fun K hK => ?_) AllReadyH.nil
          go_simp
          refine hK.out _ _ ⟨(WA9.out.blk.other (Ne.symm hXg) 1 _).1 3 _ rfl, (KRR9.out.other (by omega) 1 _).1 0 _ rfl, (KRR9.out.other (by omega) 1 _).1 1 _ rfl⟩ (fun _ => ?_)
          clear hK K
          refine wpAnyH_done (by kernel_rfl) ?_ _
          go_wp2_with fail
          go_roundw
          case rel => exact ⟨p + 1, .slice A9 m9 c9, by go_num, by omega, by rw [HTK.out]; exact OW9.out.kept (grownBy_set w9 ⟨X, 1, none⟩ _) (fun k hk => ⟨fun e => (by have h1 := OW9.out.row_ge e; injection hk with hk; dsimp only at hk; omega), id⟩), KX9.out.put (by simp) _ rfl, KN9.out.other (Ne.symm hXN) 1 _, KR9.out.other (Ne.symm hXR) 1 _, WA9.out.grown (grownBy_set w9 ⟨X, 1, none⟩ _) (fun k hk => by injection hk with hk; dsimp only at hk; subst hk; exact ⟨hXg, fun e => (HRV.out X e).2 rfl⟩), BE9.out.setCell hXw _, by simpa using hs9⟩
          case measure => simp [intOf]; omega
      · obtain rfl : p = nr := by omega
        have hd : decide ((p : Int) < (p : Int)) = false := by simp
        obtain ⟨Av, cv, hv2, _, _, _⟩ := OW.out.isSlB
        obtain ⟨mv, hmv⟩ : ∃ mv, mv = ((xr.take p).map (opOf lsn xt)).length := ⟨_, rfl⟩
        rw [← hmv] at hv2
        subst hv2
        clear hmv
        obtain ⟨r0, r1, r2, rz⟩ := KRr.out.c3
        have hgX : g ≠ X := Ne.symm hXg
        have hgR : g ≠ w.heap.size := Ne.symm hRg
        have hRX : w.heap.size ≠ X := Ne.symm hXR
        have HNC := Lib.hid (show (xr.take p).map (opOf lsn xt) = xr.map (opOf lsn xt) by rw [List.take_of_length_le (by rw [← HNR.out]; exact Nat.le_refl _)])
        have SLO := Lib.hid (OW.out.isSl (S' := fun k => B0 ≤ k ∧ k < wr.heap.size) (fun _ h => h.elim) (fun k h1 h2 => ⟨h1, h2⟩))
        iterate 63 (first | go_values | go_skip | go_guarded | go_step | go_upon | go_back)
        obtain ⟨Z, hZ⟩ : ∃ Z, Z = ((((((((((wr.setCell ⟨g, 0, none⟩ (.int .i64 0)).setCell ⟨g, 1, none⟩ (.int .i64 0)).setCell ⟨g, 2, none⟩ (.int .i64 0)).setCell ⟨g, 3, none⟩ (.int .i64 0)).setCell ⟨g, 4, none⟩ (.slice none 0 0)).setCell ⟨g, 5, none⟩ (.int .i64 0)).setCell ⟨g, 6, none⟩ (.bool false)).setCell ⟨g, 8, none⟩ (.int .i64 0)).setCell ⟨w.heap.size, 0, none⟩ (.int .i64 lsn)).setCell ⟨w.heap.size, 1, none⟩ (.slice Av mv cv)).setCell ⟨w.heap.size, 2, none⟩ (.slice (some ⟨NB, 0, none⟩) 1 1) := ⟨_, rfl⟩
        have KRz := Lib.hid (show Blk Z w.heap.size [.int .i64 lsn, .slice Av mv cv, .slice (some ⟨NB, 0, none⟩) 1 1] by
          rw [hZ]
          exact (((((((((((KRr.out.other hRg 0 _).other hRg 1 _).other hRg 2 _).other hRg 3 _).other hRg 4 _).other hRg 5 _).other hRg 6 _).other hRg 8 _).put (j := 0) (by simp) _ rfl).put (j := 1) (by simp) _ rfl).put (j := 2) (by simp) _ rfl))
        have KGz := Lib.hid (show Blk Z g [.int .i64 0, .int .i64 0, .int .i64 0, .int .i64 0, .slice none 0 0, .int .i64 0, .bool false, .int .i64 xn, .int .i64 0] by
          rw [hZ]
          exact ((((((((((WAr.out.blk.put (j := 0) (by simp) _ rfl).put (j := 1) (by simp) _ rfl).put (j := 2) (by simp) _ rfl).put (j := 3) (by simp) _ rfl).put (j := 4) (by simp) _ rfl).put (j := 5) (by simp) _ rfl).put (j := 6) (by simp) _ rfl).put (j := 8) (by simp) _ rfl).other hgR 0 _).other hgR 1 _).other hgR 2 _)
        have RZ := Lib.hid (show Rest (fun k => k ≠ g ∧ k ≠ w.heap.size) wr Z by
          rw [hZ]
          have hG : ¬ (g ≠ g ∧ g ≠ w.heap.size) := fun h => h.1 rfl
          have hR : ¬ (w.heap.size ≠ g ∧ w.heap.size ≠ w.heap.size) := fun h => h.2 rfl
          exact ((((((((((((Rest.refl _ wr).set hG 0 _).set hG 1 _).set hG 2 _).set hG 3 _).set hG 4 _).set hG 5 _).set hG 6 _).set hG 8 _).set hR 0 _).set hR 1 _).set hR 2 _))
        have SZ := Lib.hid (show Rest S w Z by
          rw [hZ]
          have hG : ¬ S g := WAr.out.ng
          have hR : ¬ S w.heap.size := fun h => Nat.lt_irrefl _ (hS _ h)
          exact (((((((((((((Rest.refl S w).below hS BE.out).set hG 0 _).set hG 1 _).set hG 2 _).set hG 3 _).set hG 4 _).set hG 5 _).set hG 6 _).set hG 8 _).set hR 0 _).set hR 1 _).set hR 2 _))
        obtain ⟨z0, z1, z2, zz⟩ := KRz.out.c3
        rw [← hZ]
        clear hZ r0 r1 r2 rz x0 x1 x2 xz k0 k1 k2 k3 k4 k5 k6 k7 k8 kz
        go_wp2_with fail
        refine bodyPost_ret (by simp [results, Try.results28, go_sem, z0, z1, z2]; try rfl) rfl ?_
        obtain ⟨A9, c9, hv9, _, _, sl9⟩ := SLO.out
        injection hv9 with q1 q2 q3
        subst q1
        have hws := BE.out.size
        have hwz := RZ.out.size
        rw [← q2, HNC.out] at sl9
        refine ⟨_, rfl, ⟨_, _, _, _, _, _, by rw [HTELL.out], ?_, ?_⟩, ⟨_, KGz.out, Own.nil _ _ _ (fun _ h => h.elim) _ none, WAr.out.ng, fun r hr => by simp [rowOf] at hr⟩, SZ.out⟩
        · rw [HTELL.out]
          exact (sl9.rest RZ.out (fun k hk => ⟨by omega, by omega⟩)).weak (fun k hk => ⟨by omega, by omega⟩)
        · rw [HTELL.out]
          exact IsSl.ofBlk1 (KN.out.rest RZ.out ⟨hNg, hNR2⟩) ⟨rfl, note_wf HWI.out.1 HWI.out.2.2.1⟩ ⟨hNw, by have := (KN.out.rest RZ.out ⟨hNg, hNR2⟩).lt; exact this⟩
end Go.Proofs.Ytojjeogpggielaa
