/- The walk of the law BatchMays. Written by gen_batm.py. -/
import Derived.Test.YtcohheoahdbgmaaLies
import Derived.Test.YtcohheoahdbgmaaBat9
import Derived.Test.YtcohheoahdbgmaaBat5
import Derived.Deep.RegionHeld3
import Derived.Deep.Cut
set_option linter.unusedVariables false
set_option linter.unusedSimpArgs false
namespace Go.Proofs.Ytcohheoahdbgmaa
open Go.RowKit

/-- The parts of an item as a row's cells. -/
theorem Lies.rel {w : World} {t : Item} {A : Option Addr} {n c : Nat} {A2 : Option Addr} {n2 c2 : Nat} (h : Lies w t A n c A2 n2 c2) (ht : I64 t.lsn) {S : Nat → Prop} (hS : ∀ b, b < w.heap.size → S b) : itemRep.rel w S t [.int .i64 t.lsn, .slice A n c, .slice A2 n2 c2] :=
  ⟨_, _, rfl, ht, ⟨A, n, c, rfl, h.s.weak hS, h.l, h.m⟩, ⟨A2, n2, c2, rfl, h.s2.weak hS, h.l2, h.m2⟩⟩

/-- Three items in a block of their own. -/
theorem three_items {w : World} {x y z : Item} {A : Option Addr} {n c : Nat} {A2 : Option Addr} {n2 c2 : Nat} {Ay : Option Addr} {ny cy : Nat} {By : Option Addr} {my dy : Nat} {Az : Option Addr} {nz cz : Nat} {Bz : Option Addr} {mz dz : Nat}
    (hx : Lies w x A n c A2 n2 c2) (hy : Lies w y Ay ny cy By my dy) (hz : Lies w z Az nz cz Bz mz dz) (h1 : I64 x.lsn ∧ I64 y.lsn ∧ I64 z.lsn) (t : TypeId) {cs : Array Value} (hcs : cs.toList = [.int .i64 x.lsn, .slice A n c, .slice A2 n2 c2, .int .i64 y.lsn, .slice Ay ny cy, .slice By my dy, .int .i64 z.lsn, .slice Az nz cz, .slice Bz mz dz]) :
    IsSl itemRep (w.alloc (.cells cs t)) (· < (w.alloc (.cells cs t)).heap.size) (some ⟨w.heap.size, 0, none⟩) 3 [x, y, z] := by
  have hS : ∀ b, b < w.heap.size → b < (w.alloc (.cells cs t)).heap.size := fun b h => by simp; omega
  have rx := itemRep.keep (w' := w.alloc (.cells cs t)) (hx.rel h1.1 (S := (· < w.heap.size)) (fun _ h => h)) (fun p hp => ((Below.refl w.heap.size w).alloc (Nat.le_refl _) _).cell hp)
  have ry := itemRep.keep (w' := w.alloc (.cells cs t)) (hy.rel h1.2.1 (S := (· < w.heap.size)) (fun _ h => h)) (fun p hp => ((Below.refl w.heap.size w).alloc (Nat.le_refl _) _).cell hp)
  have rz := itemRep.keep (w' := w.alloc (.cells cs t)) (hz.rel h1.2.2 (S := (· < w.heap.size)) (fun _ h => h)) (fun p hp => ((Below.refl w.heap.size w).alloc (Nat.le_refl _) _).cell hp)
  have e1 := Rows.single (itemRep.weak rx hS)
  have e2 := Rows.single (itemRep.weak ry hS)
  have e3 := Rows.single (itemRep.weak rz hS)
  have e := (e1.append e2).append e3
  refine ⟨rfl, _, e, fun _ => ⟨_, _, rfl, by simp, ?_⟩⟩
  intro j u hu
  rw [World.cell?_alloc_at _ _ _ _ rfl]
  have : cs.toList[0 + j]? = some u := by rw [hcs, Nat.zero_add]; simpa using hu
  simpa using this

theorem Own.sl {α : Type} {R : Rep α} {w : World} {base : Nat} {e : TypeId} {A : Option Addr} {n c : Nat} {l : List α} (h : Own R w base (fun _ => False) e (.slice A n c) l) : n ≤ c ∧ c ≤ maxLen ∧ IsSl R w (· < w.heap.size) A n l := by
  obtain ⟨A', c', hv, h1, h2, h3⟩ := h.isSlB
  injection hv with e1 e2 e3
  subst e1 e2 e3
  exact ⟨h1, h2, h3⟩
theorem Lies.own {w : World} {t : Item} {A : Option Addr} {n c : Nat} {A2 : Option Addr} {n2 c2 : Nat} {b1 b2 : Nat} {e1 e2 : TypeId} (h1 : Own oprRep w b1 (fun _ => False) e1 (.slice A n c) t.ops) (h2 : Own noteRep w b2 (fun _ => False) e2 (.slice A2 n2 c2) t.notes) : Lies w t A n c A2 n2 c2 :=
  ⟨h1.sl.2.2, h1.sl.1, h1.sl.2.1, h2.sl.2.2, h2.sl.1, h2.sl.2.1⟩

/-- What stays of the arguments of BatchMays. -/
structure BM (w w' : World) (b : Nat) (x : Item) (A : Option Addr) (n c : Nat) (A2 : Option Addr) (n2 c2 : Nat) (nt : Note) (op : Opr) : Prop where
  bel : Below w.heap.size w w'
  cx : Blk w' b [.int .i64 x.lsn, .slice A n c, .slice A2 n2 c2]
  cn : Blk w' (b + 1) nt.cells
  co : Blk w' (b + 2) op.cells
  lx : Lies w' x A n c A2 n2 c2
theorem BM.next {w w' w2 : World} {b : Nat} {x : Item} {A : Option Addr} {n c : Nat} {A2 : Option Addr} {n2 c2 : Nat} {nt : Note} {op : Opr} (h : BM w w' b x A n c A2 n2 c2 nt op) (hb : Below w'.heap.size w' w2) : BM w w2 b x A n c A2 n2 c2 nt op :=
  ⟨below_next h.bel hb, h.cx.after hb, h.cn.after hb, h.co.after hb, h.lx.after hb⟩

set_option maxRecDepth 100000 in
set_option maxHeartbeats 16000000 in
theorem batchMays_walk (w : World) (x : Item) (cs0 : Array Value) (s0 : itemRep.rel w (· < w.heap.size) x cs0.toList) (nt : Note) (cs1 : Array Value) (s1 : noteRep.rel w (· < w.heap.size) nt cs1.toList) (op : Opr) (cs2 : Array Value) (s2 : oprRep.rel w (· < w.heap.size) op cs2.toList) (wh : Int) (hwh : I64 wh) :
    Calls Try.prog 3 #[.agg cs0, .agg cs1, .agg cs2, .int .i64 wh] w fun e w' => e = .returned (.bool true) ∧ Below w.heap.size w w' := by
  obtain ⟨i0, hi, hz0, hz1, hz2⟩ := info_parts info_opr
  obtain ⟨j0, ji, jz0, jz1, jz2⟩ := info_parts info_note
  obtain ⟨A, n, c, A2, n2, c2, rfl, hL, hwl⟩ := item_arg s0
  obtain ⟨hcs1, hw1⟩ := s1
  obtain ⟨hcs2, hw2⟩ := s2
  obtain rfl : cs1 = #[.int .i64 nt.kind, .int .i64 nt.id, .int .i64 nt.table, .int .i64 nt.weight, .int .i64 nt.at_, .int .i64 nt.cursor, .bool nt.done] := by rw [← Array.toArray_toList (xs := cs1), hcs1]; rfl
  obtain rfl : cs2 = #[.int .i64 op.lsn, .int .i64 op.table, .int .i64 op.key, .bool op.gone, .string op.val] := by rw [← Array.toArray_toList (xs := cs2), hcs2]; rfl
  have HWL := Lib.hid hwl
  have HW1 := Lib.hid hw1
  have HW2 := Lib.hid hw2
  obtain ⟨W, hW⟩ : ∃ W, W = ((w.alloc (.cells #[.int .i64 x.lsn, .slice A n c, .slice A2 n2 c2] 25)).alloc (.cells #[.int .i64 nt.kind, .int .i64 nt.id, .int .i64 nt.table, .int .i64 nt.weight, .int .i64 nt.at_, .int .i64 nt.cursor, .bool nt.done] 27)).alloc (.cells #[.int .i64 op.lsn, .int .i64 op.table, .int .i64 op.key, .bool op.gone, .string op.val] 29) := ⟨_, rfl⟩
  have K0 : BM w W w.heap.size x A n c A2 n2 c2 nt op := by
    have hb : Below w.heap.size w W := by rw [hW]; exact below_allocB (below_allocB (below_allocB (Below.refl _ _) _) _) _
    refine ⟨hb, ?_, ?_, ?_, hL.after hb⟩
    · rw [hW]; exact ((Blk.new rfl rfl).alloc _).alloc _
    · rw [hW]; exact (Blk.new rfl (by simp)).alloc _
    · rw [hW]; exact Blk.new rfl (by simp)
  have HW := Lib.hid hW
  have H0 := Lib.hid K0
  obtain ⟨t0, t1, t2, tz⟩ := K0.cx.c3
  clear hW K0 hL hcs1 hcs2 hw1 hw2 hwl s0
  by_cases hg : 100 < n ∨ 300 < n2
  · have HD := Lib.hid (show (decide (100 < n) || decide (300 < n2)) = true by simp; omega)
    clear hg
    go_enter Try.func3, Try.ntmps3
    go_wp2_with (first
      | (go_at_call 14; rw [← HW.out]; (with_reducible refine (great16_any x A n c A2 n2 c2 _).mono ?_); rintro e w1 ⟨rfl, bel1⟩; rw [HD.out]; have H1 := Lib.hid (H0.out.next bel1); clear bel1)
      | (go_at_call 15; (with_reducible refine (awake16 _).mono ?_); rintro e w2 ⟨rfl, bel2⟩; have H2 := Lib.hid (H1.out.next bel2); clear bel2)
      | fail)
    go_ret
    exact ⟨rfl, H2.out.bel⟩
  · have HD := Lib.hid (show (decide (100 < n) || decide (300 < n2)) = false by simp; omega)
    clear hg
    obtain ⟨y, hy⟩ : ∃ y, y = someI 5 x := ⟨_, rfl⟩
    have hmay := someI_may 5 x (by omega) (by omega)
    rw [← hy] at hmay
    have hyp := mayItem_parts hmay
    have hyo : y.ops.length ≤ 5 := by rw [hy]; unfold someI playOps; dsimp only; rw [List.length_map, List.length_take]; omega
    have hyn : y.notes.length ≤ 4 := by rw [hy]; unfold someI; dsimp only; rw [List.length_map, List.length_take]; omega
    have HY := Lib.hid hy
    have HYL := Lib.hid (show I64 y.lsn by unfold I64; omega)
    obtain ⟨q, hq⟩ : ∃ q, q = modOf wh 2 := ⟨_, rfl⟩
    have HQ := Lib.hid hq
    clear hy hmay hyp hq
    have hqd : (q == 0) = true ∨ (q == 0) = false := by cases q == 0 <;> simp
    go_enter Try.func3, Try.ntmps3
    go_upto_region 5 with (first
      | (go_at_call 14; rw [← HW.out]; (with_reducible refine (great16_any x A n c A2 n2 c2 _).mono ?_); rintro e w1 ⟨rfl, bel1⟩; rw [HD.out]; have H1 := Lib.hid (H0.out.next bel1); obtain ⟨t0, t1, t2, tz⟩ := H1.out.cx.c3; clear bel1)
      | (go_at_call 16; (with_reducible refine (some_any x A n c A2 n2 c2 5 w1 H1.out.lx.s H1.out.lx.s2 (by omega) (by omega)).mono ?_); rintro e w2 ⟨Ay, ny, cy, By, my, dy, rfl, sy, ly, my1, sy2, ly2, my2, bel2⟩; rw [← HY.out] at sy sy2 ⊢; have H2 := Lib.hid (H1.out.next bel2); have LY := Lib.hid (show Lies w2 y Ay ny cy By my dy from ⟨sy.weak fun _ h => h.2, ly, my1, sy2.weak fun _ h => h.2, ly2, my2⟩); obtain ⟨U, hU⟩ : ∃ U, U = w2.alloc (.cells #[.int .i64 y.lsn, .slice Ay ny cy, .slice By my dy] 25) := ⟨_, rfl⟩; have HU := Lib.hid (show BM w U w.heap.size x A n c A2 n2 c2 nt op by rw [hU]; exact H2.out.next ((Below.refl _ _).alloc (Nat.le_refl _) _)); have LYU := Lib.hid (show Lies U y Ay ny cy By my dy by rw [hU]; exact LY.out.alloc _); have KY := Lib.hid (show Blk U w2.heap.size [.int .i64 y.lsn, .slice Ay ny cy, .slice By my dy] by rw [hU]; exact Blk.new rfl rfl); have HUE := Lib.hid hU; obtain ⟨t0, t1, t2, tz⟩ := (H2.out.next ((Below.refl _ _).alloc (Nat.le_refl _) (.cells #[.int .i64 y.lsn, .slice Ay ny cy, .slice By my dy] 25))).cx.c3; clear sy sy2 bel2 hU)
      | (go_at_call 16; rw [← HUE.out]; (with_reducible refine (some_own x A n c A2 n2 c2 5 U HU.out.lx.s HU.out.lx.s2 (by omega) (by omega)).mono ?_); rintro e w3 ⟨Az, nz, cz, Bz, mz, dz, rfl, sz, lz, mz1, sz2, lz2, mz2, bel3, oz, ozn, apz⟩; rw [← HY.out] at sz sz2 oz ozn ⊢; have OZ := Lib.hid oz; have OZN := Lib.hid ozn; have APZ := Lib.hid apz; have B3 := Lib.hid bel3; have HLZ := Lib.hid (And.intro sz.len sz2.len); clear sz sz2 oz ozn apz bel3)
      | fail)
    obtain ⟨V, hV⟩ : ∃ V, V = w3.alloc (.cells #[.int .i64 y.lsn, .slice Az nz cz, .slice Bz mz dz] 25) := ⟨_, rfl⟩
    obtain ⟨Z, hZ⟩ : ∃ Z, Z = w3.heap.size := ⟨_, rfl⟩
    have KZ := Lib.hid (show Blk V Z [.int .i64 y.lsn, .slice Az nz cz, .slice Bz mz dz] by rw [hV, hZ]; exact Blk.new rfl rfl)
    have BV := Lib.hid (show Below U.heap.size U V by rw [hV]; exact below_allocB B3.out _)
    have OV := Lib.hid (show Own oprRep V U.heap.size (fun _ => False) 29 (.slice Az nz cz) y.ops by rw [hV]; exact OZ.out.alloc _)
    have ONV := Lib.hid (show Own noteRep V U.heap.size (fun _ => False) 27 (.slice Bz mz dz) y.notes by rw [hV]; exact OZN.out.alloc _)
    have HRZ := Lib.hid (show ∀ q, rowOf (.slice Az nz cz) = some q → q < Z from fun q h => by rw [hZ]; exact OZ.out.row_lt h)
    have HRN := Lib.hid (show ∀ q, rowOf (.slice Bz mz dz) = some q → q < Z from fun q h => by rw [hZ]; exact OZN.out.row_lt h)
    have hUZ : U.heap.size ≤ Z := by rw [hZ]; exact B3.out.size
    have hZV : Z < V.heap.size := KZ.out.lt
    rw [← hV, ← hZ]
    clear hV hZ
    obtain ⟨z0, z1, z2, zz⟩ := KZ.out.c3
    obtain ⟨n0, n1', n2', n3, n4, n5, n6, nz'⟩ := (HU.out.next BV.out).cn.c7
    obtain ⟨o0, o1, o2, o3, o4, oz'⟩ := (HU.out.next BV.out).co.c5
    have hUV : U.heap.size ≤ V.heap.size := BV.out.size
    go_upto_if 26 with (first
      | (go_at_call 17; (with_reducible refine (mod_any wh 2 _ (by omega) (by omega)).mono ?_); rintro e w' ⟨rfl, rfl⟩; rw [← HQ.out])
      | fail)
    go_cut [27] (fun v27 wc => ∃ (Az : Option Addr) (nz cz : Nat) (Bz : Option Addr) (mz dz : Nat) (z : Item), Blk wc Z [.int .i64 z.lsn, .slice Az nz cz, .slice Bz mz dz] ∧ Lies wc z Az nz cz Bz mz dz ∧ I64 z.lsn ∧ Below U.heap.size U wc)
    case first =>
      rcases hqd with hqd | hqd
      · go_wp2_with (first
          | (at_builtin; refine wpList_append_Own _ rfl _ _ 23 rfl U.heap.size 27 j0 _ 56 Try.underlying23 ji jz0 jz1 jz2 rfl (R := noteRep) (S := fun _ => False) (l := y.notes) (l' := [nt]) (.slice Bz mz dz) rfl (ONV.out.alloc _) _ 1 1 rfl (Src.new (a := nt) (cs := nt.cells) ⟨rfl, HW1.out⟩) (by simp only [maxLen]; omega) (by omega) (by omega) (by simp; omega) ?_; intro v5 w5 own5 gr5 at5; have HN5 := Lib.hid ((Appended.one gr5 at5).row (b := Z) (by simp; omega) (fun e => by have := HRN.out _ e; omega)); obtain ⟨A5, c5, hv5, hlc5, hcm5, sl5⟩ := own5.isSlB; obtain ⟨m5, hm5⟩ : ∃ m5, m5 = (y.notes ++ [nt]).length := ⟨_, rfl⟩; rw [← hm5] at hv5; subst hv5; clear hm5 hlc5 hcm5 sl5; have KZ5 := Lib.hid ((KZ.out.alloc _).grown gr5 (fun k hk e => by have := HRN.out k hk; omega)); have O5 := Lib.hid ((OV.out.alloc _).kept gr5 (fun k hk => ⟨fun e => APZ.out k e hk, id⟩)); have B5 := Lib.hid ((below_allocB BV.out _).grown gr5 (by simp; omega) (fun k hk => ONV.out.row_ge hk)); have N5 := Lib.hid own5; clear own5 gr5 at5; obtain ⟨s0, s1, s2, sz⟩ := KZ5.out.c3; have hZ5 := KZ5.out.lt)
          | fail)
        go_meet
        case rel =>
          exact ⟨Az, nz, cz, A5, m5, c5, ⟨y.lsn, y.ops, y.notes ++ [nt]⟩, KZ5.out.put (j := 2) (by simp) _ rfl, Lies.own (b1 := U.heap.size) (b2 := U.heap.size) (e1 := 29) (e2 := 27) (O5.out.kept (grownBy_set _ ⟨Z, 2, none⟩ _) (fun k hk => ⟨fun e => (by have h1 := HRZ.out k e; injection hk with hk; dsimp only at hk; omega), id⟩)) (N5.out.kept (grownBy_set _ ⟨Z, 2, none⟩ _) (fun k hk => ⟨fun e => (by injection hk with hk; dsimp only at hk; subst hk; exact HN5.out e), id⟩)), HYL.out, B5.out.setCell (p := ⟨Z, 2, none⟩) hUZ _⟩
      · go_wp2_with (first
          | (at_builtin; refine wpList_append_Own _ rfl _ _ 22 rfl U.heap.size 29 i0 _ 48 Try.underlying22 hi hz0 hz1 hz2 rfl (R := oprRep) (S := fun _ => False) (l := y.ops) (l' := [op]) (.slice Az nz cz) rfl (OV.out.alloc _) _ 1 1 rfl (Src.new (a := op) (cs := op.cells) ⟨rfl, HW2.out⟩) (by simp only [maxLen]; omega) (by omega) (by omega) (by simp; omega) ?_; intro v5 w5 own5 gr5 at5; have HN5 := Lib.hid ((Appended.one gr5 at5).row (b := Z) (by simp; omega) (fun e => by have := HRZ.out _ e; omega)); obtain ⟨A5, c5, hv5, hlc5, hcm5, sl5⟩ := own5.isSlB; obtain ⟨m5, hm5⟩ : ∃ m5, m5 = (y.ops ++ [op]).length := ⟨_, rfl⟩; rw [← hm5] at hv5; subst hv5; clear hm5 hlc5 hcm5 sl5; have KZ5 := Lib.hid ((KZ.out.alloc _).grown gr5 (fun k hk e => by have := HRZ.out k hk; omega)); have O5 := Lib.hid ((ONV.out.alloc _).kept gr5 (fun k hk => ⟨fun e => APZ.out k hk e, id⟩)); have B5 := Lib.hid ((below_allocB BV.out _).grown gr5 (by simp; omega) (fun k hk => OV.out.row_ge hk)); have N5 := Lib.hid own5; clear own5 gr5 at5; obtain ⟨s0, s1, s2, sz⟩ := KZ5.out.c3; have hZ5 := KZ5.out.lt)
          | fail)
        go_meet
        case rel =>
          exact ⟨A5, m5, c5, Bz, mz, dz, ⟨y.lsn, y.ops ++ [op], y.notes⟩, KZ5.out.put (j := 1) (by simp) _ rfl, Lies.own (b1 := U.heap.size) (b2 := U.heap.size) (e1 := 29) (e2 := 27) (N5.out.kept (grownBy_set _ ⟨Z, 1, none⟩ _) (fun k hk => ⟨fun e => (by injection hk with hk; dsimp only at hk; subst hk; exact HN5.out e), id⟩)) (O5.out.kept (grownBy_set _ ⟨Z, 1, none⟩ _) (fun k hk => ⟨fun e => (by have h1 := HRN.out k e; injection hk with hk; dsimp only at hk; omega), id⟩)), HYL.out, B5.out.setCell (p := ⟨Z, 1, none⟩) hUZ _⟩
    case rest =>
      obtain ⟨Az, nz, cz, Bz, mz, dz, z, hKZ, hLZ, hzl, hB⟩ := hcut
      have HC := Lib.hid (HU.out.next hB)
      have KYC := Lib.hid (KY.out.after hB)
      have LYC := Lib.hid (LYU.out.after hB)
      obtain ⟨t0, t1, t2, tz⟩ := HC.out.cx.c3
      obtain ⟨y0, y1, y2, yz⟩ := KYC.out.c3
      obtain ⟨z0, z1, z2, zz⟩ := hKZ.c3
      obtain ⟨D, hD⟩ : ∃ D, D = wc.alloc (.cells #[.int .i64 x.lsn, .slice A n c, .slice A2 n2 c2, .int .i64 y.lsn, .slice Ay ny cy, .slice By my dy, .int .i64 z.lsn, .slice Az nz cz, .slice Bz mz dz] 25) := ⟨_, rfl⟩
      have H3 := Lib.hid (show IsSl itemRep D (· < D.heap.size) (some ⟨wc.heap.size, 0, none⟩) 3 [x, y, z] by rw [hD]; exact three_items HC.out.lx LYC.out hLZ ⟨HWL.out, HYL.out, hzl⟩ 25 rfl)
      have BD := Lib.hid (show Below w.heap.size w D by rw [hD]; exact below_allocB HC.out.bel _)
      have HDE := Lib.hid hD
      obtain ⟨l3, hl3⟩ : ∃ l3, l3 = [x, y, z] := ⟨_, rfl⟩
      rw [← hl3] at H3
      clear hl3 hD hLZ hB hKZ
      go_upto_region 9 with fail
      rw [← HDE.out]
      obtain ⟨d, hd⟩ : ∃ d, d = wc.heap.size := ⟨_, rfl⟩
      rw [← hd] at H3 ⊢
      clear hd t0 t1 t2 tz y0 y1 y2 yz z0 z1 z2 zz HDE
      go_loopw [44] (fun i wr => ∃ (k : Nat), i = .int .i64 k ∧ k ≤ 3 ∧ Below D.heap.size D wr) (fun i _ => 3 - (intOf i).toNat)
      case atStart => exact ⟨0, rfl, by omega, Below.refl _ _⟩
      case round =>
        obtain ⟨k, rfl, hk, hbel⟩ := hrel
        have BE := Lib.hid hbel
        clear hbel
        by_cases hlt : k < 3
        · obtain ⟨b, off, x', A1, n1, c1, A3, n3, c3, hA, hbS, hx, hxl, s1, p1, q1, s2, p2, q2, c0, c4, c5⟩ := H3.out.item hlt (fun p hp => BE.out.cell hp)
          injection hA with hA
          injection hA with h1 h2 _
          subst h1 h2
          rw [Nat.zero_add] at c0 c4 c5
          have hkm : (k : Int) < 3 := by omega
          have hk0 : (0 : Int) ≤ (k : Int) := by omega
          have hdl : decide ((k : Int) < 3) = true := decide_eq_true hkm
          have hs := BE.out.size
          obtain ⟨W1, hW1⟩ : ∃ W1, W1 = wr.alloc (.cells #[.int .i64 x'.lsn, .slice A1 n1 c1, .slice A3 n3 c3] 25) := ⟨_, rfl⟩
          have B1 := Lib.hid (show Below wr.heap.size wr W1 by rw [hW1]; exact (Below.refl _ _).alloc (Nat.le_refl _) _)
          have K1 := Lib.hid (show Blk W1 wr.heap.size [.int .i64 x'.lsn, .slice A1 n1 c1, .slice A3 n3 c3] by rw [hW1]; exact Blk.new rfl rfl)
          have L1 := Lib.hid (show Lies W1 x' A1 n1 c1 A3 n3 c3 from ⟨((s1.more hs).afterB B1.out), p1, q1, ((s2.more hs).afterB B1.out), p2, q2⟩)
          have HW1 := Lib.hid hW1
          have HXL := Lib.hid hxl
          obtain ⟨x0, x1, x2, xz⟩ := K1.out.c3
          clear hx hxl s1 p1 q1 s2 p2 q2 hW1 hlt
          go_upto_region 13 with (first
            | (go_at_call 18; rw [← HW1.out]; (with_reducible refine (batEncode_any x' A1 n1 c1 A3 n3 c3 _ L1.out.s L1.out.s2 L1.out.l L1.out.m L1.out.l2 L1.out.m2 HXL.out).mono ?_); rintro e w2' ⟨v2, rfl, own2, bel2⟩; obtain ⟨Ab, cb, rfl, hlb, hcb, slb⟩ := own2.isSlB; have SE2 := Lib.hid slb; have L2 := Lib.hid (L1.out.after bel2); have K2 := Lib.hid (K1.out.after bel2); have B2 := Lib.hid (below_next B1.out bel2); obtain ⟨x0, x1, x2, xz⟩ := K2.out.c3; clear own2 slb bel2)
            | (go_at_call 19; (with_reducible refine (refEncodeItem_any x' A1 n1 c1 A3 n3 c3 _ L2.out.s L2.out.s2 L2.out.l L2.out.m L2.out.l2 L2.out.m2 HXL.out).mono ?_); rintro e w3' ⟨v3, rfl, own3, bel3⟩; obtain ⟨Ac, cc, rfl, hlc, hcc, slc⟩ := own3.isSlB; have SR3 := Lib.hid slc; have SE3 := Lib.hid (SE2.out.afterB bel3); have L3 := Lib.hid (L2.out.after bel3); have K3 := Lib.hid (K2.out.after bel3); have B3' := Lib.hid (below_next B2.out bel3); obtain ⟨x0, x1, x2, xz⟩ := K3.out.c3; clear own3 slc bel3)
            | fail)
          have L3d := Lib.hid (show Lies w3'.drew x' A1 n1 c1 A3 n3 c3 from ⟨L3.out.s.keep (fun _ _ => rfl), L3.out.l, L3.out.m, L3.out.s2.keep (fun _ _ => rfl), L3.out.l2, L3.out.m2⟩)
          have SE3d := Lib.hid (show IsSl byteRep w3'.drew (· < w3'.drew.heap.size) Ab (encIV x').length (encIV x') from SE3.out.keep (fun _ _ => rfl))
          have SR3d := Lib.hid (show IsSl byteRep w3'.drew (· < w3'.drew.heap.size) Ac (encIV x').length (encIV x') from SR3.out.keep (fun _ _ => rfl))
          go_region_held3 (fun w' => w'.cell? ⟨wr.heap.size, 0, none⟩ = some (.int .i64 x'.lsn) ∧ w'.cell? ⟨wr.heap.size, 1, none⟩ = some (.slice A1 n1 c1) ∧ w'.cell? ⟨wr.heap.size, 2, none⟩ = some (.slice A3 n3 c3)) (first | exact ⟨x0, x1, x2⟩ | exact HK4.out | exact HK5.out | fail)
            (first
            | (go_at_call 20; (with_reducible refine (batMay_any x' A1 n1 c1 A3 n3 c3 w3'.drew L3d.out.s L3d.out.s2 L3d.out.l L3d.out.m L3d.out.l2 L3d.out.m2).mono ?_); rintro e w4 ⟨rfl, bel4⟩; have L4 := Lib.hid (L3d.out.after bel4); have SE4 := Lib.hid (SE3d.out.afterB bel4); have SR4 := Lib.hid (SR3d.out.afterB bel4); have B4 := Lib.hid (below_next B3'.out (below_of_drew bel4)); have HK4 := Lib.hid (show w4.cell? ⟨wr.heap.size, 0, none⟩ = some (.int .i64 x'.lsn) ∧ w4.cell? ⟨wr.heap.size, 1, none⟩ = some (.slice A1 n1 c1) ∧ w4.cell? ⟨wr.heap.size, 2, none⟩ = some (.slice A3 n3 c3) from ⟨(K3.out.after (below_of_drew bel4)).1 0 _ rfl, (K3.out.after (below_of_drew bel4)).1 1 _ rfl, (K3.out.after (below_of_drew bel4)).1 2 _ rfl⟩); have K4 := Lib.hid (K3.out.after (below_of_drew bel4)); clear bel4)
            | (go_at_call 20; (with_reducible refine (batMay_any x' A1 n1 c1 A3 n3 c3 w4 L4.out.s L4.out.s2 L4.out.l L4.out.m L4.out.l2 L4.out.m2).mono ?_); rintro e w5 ⟨rfl, bel5⟩; have SE5 := Lib.hid (SE4.out.afterB bel5); have SR5 := Lib.hid (SR4.out.afterB bel5); have B5 := Lib.hid (below_next B4.out bel5); have K5 := Lib.hid (K4.out.after bel5); have HK5 := Lib.hid (show w5.cell? ⟨wr.heap.size, 0, none⟩ = some (.int .i64 x'.lsn) ∧ w5.cell? ⟨wr.heap.size, 1, none⟩ = some (.slice A1 n1 c1) ∧ w5.cell? ⟨wr.heap.size, 2, none⟩ = some (.slice A3 n3 c3) from ⟨K5.out.1 0 _ rfl, K5.out.1 1 _ rfl, K5.out.1 2 _ rfl⟩); clear bel5)
            | (go_at_call 21; (with_reducible refine (refmayItem_any x' A1 n1 c1 A3 n3 c3 w3'.drew L3d.out.s L3d.out.s2 L3d.out.l L3d.out.m L3d.out.l2 L3d.out.m2).mono ?_); rintro e w4 ⟨rfl, bel4⟩; have L4 := Lib.hid (L3d.out.after bel4); have SE4 := Lib.hid (SE3d.out.afterB bel4); have SR4 := Lib.hid (SR3d.out.afterB bel4); have B4 := Lib.hid (below_next B3'.out (below_of_drew bel4)); have HK4 := Lib.hid (show w4.cell? ⟨wr.heap.size, 0, none⟩ = some (.int .i64 x'.lsn) ∧ w4.cell? ⟨wr.heap.size, 1, none⟩ = some (.slice A1 n1 c1) ∧ w4.cell? ⟨wr.heap.size, 2, none⟩ = some (.slice A3 n3 c3) from ⟨(K3.out.after (below_of_drew bel4)).1 0 _ rfl, (K3.out.after (below_of_drew bel4)).1 1 _ rfl, (K3.out.after (below_of_drew bel4)).1 2 _ rfl⟩); have K4 := Lib.hid (K3.out.after (below_of_drew bel4)); clear bel4)
            | (go_at_call 21; (with_reducible refine (refmayItem_any x' A1 n1 c1 A3 n3 c3 w4 L4.out.s L4.out.s2 L4.out.l L4.out.m L4.out.l2 L4.out.m2).mono ?_); rintro e w5 ⟨rfl, bel5⟩; have SE5 := Lib.hid (SE4.out.afterB bel5); have SR5 := Lib.hid (SR4.out.afterB bel5); have B5 := Lib.hid (below_next B4.out bel5); have K5 := Lib.hid (K4.out.after bel5); have HK5 := Lib.hid (show w5.cell? ⟨wr.heap.size, 0, none⟩ = some (.int .i64 x'.lsn) ∧ w5.cell? ⟨wr.heap.size, 1, none⟩ = some (.slice A1 n1 c1) ∧ w5.cell? ⟨wr.heap.size, 2, none⟩ = some (.slice A3 n3 c3) from ⟨K5.out.1 0 _ rfl, K5.out.1 1 _ rfl, K5.out.1 2 _ rfl⟩); clear bel5)
            | (go_at_call 22; (with_reducible refine (bytes_any _ _ _ _ _ _ (encIV x') _ _ _ SE5.out SR5.out).mono ?_); rintro e w' ⟨rfl, rfl⟩)
            | fail)
          all_goals
            go_wp2_with fail
            go_roundw
            case rel => exact ⟨k + 1, by go_num, by omega, below_next BE.out B5.out⟩
            case measure => simp [intOf]; omega
        · obtain rfl : k = 3 := by omega
          go_wp2_with (first
            | (go_at_call 15; (with_reducible refine (awake16 _).mono ?_); rintro e w2 ⟨rfl, bel2⟩; have B2 := Lib.hid (below_next BE.out bel2); clear bel2)
            | fail)
          go_ret
          exact ⟨rfl, below_next BD.out B2.out⟩

end Go.Proofs.Ytcohheoahdbgmaa
