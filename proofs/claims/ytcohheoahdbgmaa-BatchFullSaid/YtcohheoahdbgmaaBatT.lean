/- Contract: the law's some (qanatlaw16): an item that may be, of any one. Written by gen_batt.py. -/
import Derived.Test.YtcohheoahdbgmaaBatS
set_option linter.unusedVariables false
set_option linter.unusedSimpArgs false
namespace Go.Proofs.Ytcohheoahdbgmaa
open Go.RowKit

def someNote (L : Int) (n : Note) : Note := if modOf n.kind 2 = 0 then ⟨1, 1 + modOf n.id 64, modOf n.table 8, 1 + modOf n.weight 8, 1 + modOf n.at_ L, 0, false⟩ else ⟨2, 1 + modOf n.id 64, 0, 0, 0, modOf n.cursor 1099511627777, n.done⟩
def someI (lsn : Int) (x : Item) : Item := ⟨playLsn lsn x, playOps 8 lsn x, (x.notes.take 4).map (someNote (playLsn lsn x))⟩
theorem playLsn_range (lsn : Int) (x : Item) : lsn + 1 ≤ playLsn lsn x ∧ playLsn lsn x ≤ lsn + 3 := by
  have := modOf_range x.lsn 3 (by omega)
  unfold playLsn
  omega
theorem someNote_may (L : Int) (n : Note) (hL : 0 < L) : mayNot (someNote L n) L = true := by
  have h1 := modOf_range n.id 64 (by omega)
  have h2 := modOf_range n.table 8 (by omega)
  have h3 := modOf_range n.weight 8 (by omega)
  have h4 := modOf_range n.at_ L hL
  have h5 := modOf_range n.cursor 1099511627777 (by omega)
  unfold someNote
  split
  · unfold mayNot
    dsimp only
    rw [decide_eq_true (by omega), if_pos rfl]
    exact decide_eq_true ⟨by dsimp only; omega, by dsimp only; omega, by dsimp only; omega, by dsimp only; omega, by dsimp only; omega, by dsimp only; omega, rfl, rfl⟩
  · unfold mayNot
    dsimp only
    rw [decide_eq_true (by omega), if_neg (by decide), if_pos rfl]
    exact decide_eq_true ⟨rfl, rfl, rfl, by dsimp only; omega, by dsimp only; omega⟩
theorem playOpr_may (L : Int) (o : Opr) (hL : 0 < L) : mayOpr (playOpr 8 L o) L = true := by
  have h1 := modOf_range o.lsn L hL
  have h2 := mayChg_parts (playChg_may (c := ⟨o.table, o.key, o.gone, o.val⟩) 8 (by omega))
  exact decide_eq_true ⟨by show 1 ≤ 1 + modOf o.lsn L; omega, by show 1 + modOf o.lsn L ≤ L; omega, h2⟩
theorem someI_may (lsn : Int) (x : Item) (h0 : 0 ≤ lsn) (h1 : lsn ≤ 1099511627770) : mayItem (someI lsn x) = true := by
  have hr := playLsn_range lsn x
  refine mayItem_of (by show 1 ≤ playLsn lsn x; omega) (by show playLsn lsn x ≤ _; omega) ?_ ?_ ?_ ?_
  · show (playOps 8 lsn x).length ≤ 4096
    unfold playOps
    rw [List.length_map, List.length_take]
    omega
  · show ((x.notes.take 4).map _).length ≤ 256
    rw [List.length_map, List.length_take]
    omega
  · intro o ho
    obtain ⟨y, _, rfl⟩ := List.mem_map.1 (show o ∈ (x.ops.take 5).map _ from ho)
    exact playOpr_may _ _ (by omega)
  · intro n hn
    obtain ⟨y, _, rfl⟩ := List.mem_map.1 (show n ∈ (x.notes.take 4).map _ from hn)
    exact someNote_may _ _ (by omega)

/-- What it answers: an item that lies somewhere. -/
def SomeRes (t : Item) (w : World) (e : Ending) (w' : World) : Prop :=
  ∃ A n c A2 n2 c2, e = .returned (.agg #[.int .i64 t.lsn, .slice A n c, .slice A2 n2 c2]) ∧ IsSl oprRep w' (fun b => w.heap.size ≤ b ∧ b < w'.heap.size) A n t.ops ∧ n ≤ c ∧ c ≤ maxLen ∧ IsSl noteRep w' (fun b => w.heap.size ≤ b ∧ b < w'.heap.size) A2 n2 t.notes ∧ n2 ≤ c2 ∧ c2 ≤ maxLen ∧ Below w.heap.size w w'

def SomeOwn (t : Item) (w : World) (e : Ending) (w' : World) : Prop :=
  ∃ A n c A2 n2 c2, e = .returned (.agg #[.int .i64 t.lsn, .slice A n c, .slice A2 n2 c2]) ∧ IsSl oprRep w' (fun b => w.heap.size ≤ b ∧ b < w'.heap.size) A n t.ops ∧ n ≤ c ∧ c ≤ maxLen ∧ IsSl noteRep w' (fun b => w.heap.size ≤ b ∧ b < w'.heap.size) A2 n2 t.notes ∧ n2 ≤ c2 ∧ c2 ≤ maxLen ∧ Below w.heap.size w w' ∧ Own oprRep w' w.heap.size (fun _ => False) 29 (.slice A n c) t.ops ∧ Own noteRep w' w.heap.size (fun _ => False) 27 (.slice A2 n2 c2) t.notes ∧ (∀ q, rowOf (.slice A n c) = some q → rowOf (.slice A2 n2 c2) = some q → False)

set_option maxRecDepth 100000 in
set_option maxHeartbeats 64000000 in
theorem some_own (x : Item) (A : Option Addr) (n c : Nat) (A2 : Option Addr) (n2 c2 : Nat) (lsn : Int) (w : World) (h : IsSl oprRep w (· < w.heap.size) A n x.ops) (h2 : IsSl noteRep w (· < w.heap.size) A2 n2 x.notes) (hl : 0 ≤ lsn) (hl2 : lsn ≤ 1099511627770) :
    Calls Try.prog 16 #[.agg #[.int .i64 x.lsn, .slice A n c, .slice A2 n2 c2], .int .i64 lsn] w fun e w' => SomeOwn (someI lsn x) w e w' := by
  obtain ⟨i0, hi, hz0, hz1, hz2⟩ := info_parts info_note
  obtain ⟨xl, xo, xn⟩ := x
  dsimp only at h h2 ⊢
  have H := Lib.hid h
  have H2 := Lib.hid h2
  have HL2 := Lib.hid h2.len
  have hlr := playLsn_range lsn ⟨xl, xo, xn⟩
  obtain ⟨L, hLe⟩ : ∃ L, L = playLsn lsn ⟨xl, xo, xn⟩ := ⟨_, rfl⟩
  obtain ⟨ops, hops⟩ : ∃ ops, ops = playOps 8 lsn ⟨xl, xo, xn⟩ := ⟨_, rfl⟩
  rw [← hLe] at hlr
  have hL0 : 0 < L := by omega
  have hL1 : L ≤ 1099511627776 := by omega
  have HSI := Lib.hid (show someI lsn ⟨xl, xo, xn⟩ = ⟨L, ops, (xn.take 4).map (someNote L)⟩ by unfold someI; rw [hops, hLe])
  have HLE := Lib.hid hLe
  have HOPS := Lib.hid hops
  obtain ⟨W0, hW0⟩ : ∃ W0, W0 = (w.alloc (.cells #[.int .i64 xl, .slice A n c, .slice A2 n2 c2] 25)).alloc (.cells #[.int .i64 0, .slice none 0 0, .slice none 0 0] 25) := ⟨_, rfl⟩
  have B0 := Lib.hid (show Below w.heap.size w W0 by rw [hW0]; exact ((Below.refl _ _).alloc (Nat.le_refl _) _).alloc (by simp) _)
  have K0 := Lib.hid (show Blk W0 w.heap.size [.int .i64 xl, .slice A n c, .slice A2 n2 c2] by rw [hW0]; exact (Blk.new rfl rfl).alloc _)
  have R0 := Lib.hid (show Blk W0 (w.heap.size + 1) [.int .i64 0, .slice none 0 0, .slice none 0 0] by rw [hW0]; exact Blk.new rfl (by simp))
  have HW0 := Lib.hid hW0
  have hs0 : w.heap.size + 1 < W0.heap.size := R0.out.lt
  have HI0 := Lib.hid ((H.out.below B0.out).more (Nat.le_of_lt (Nat.lt_of_succ_lt hs0)))
  obtain ⟨k0, k1, k2, kz⟩ := K0.out.c3
  clear h h2 hLe hops hW0 hlr
  go_enter Try.func16, Try.ntmps16
  go_upto_block 0 with (first
    | (go_at_call 39; (rw [← HW0.out]); (with_reducible refine (playItem_any ⟨xl, xo, xn⟩ A n c A2 n2 c2 8 lsn W0 HI0.out (by omega) (by omega) hl hl2).mono ?_); rintro e W1 ⟨v1, rfl, own1, bel1⟩; rw [← HOPS.out] at own1; rw [← HLE.out]; obtain ⟨A5, c5, hv5, hlc5, hcm5, sl5⟩ := own1.isSlR; subst hv5; obtain ⟨m5, hm5⟩ : ∃ m5, m5 = ops.length := ⟨_, rfl⟩; rw [← hm5] at own1 sl5 hlc5 ⊢; have SL5 := Lib.hid sl5; have B1 := Lib.hid bel1; have hs1 := bel1.size; have OO := Lib.hid own1; clear own1 sl5 bel1 hm5 k0 k1 k2 kz)
    | fail)
  obtain ⟨T, hT⟩ : ∃ T, T = W1.heap.size := ⟨_, rfl⟩
  have HT := Lib.hid hT
  have hT0 : W0.heap.size ≤ T := by omega
  obtain ⟨W, hW⟩ : ∃ W, W = W1.alloc (.cells #[.int .i64 L, .slice A5 m5 c5, .slice none 0 0] 25) := ⟨_, rfl⟩
  have TW := Lib.hid (show Blk W T [.int .i64 L, .slice A5 m5 c5, .slice none 0 0] by rw [hW, HT.out]; exact Blk.new rfl rfl)
  have BW := Lib.hid (show Below T W1 W by rw [hW, HT.out]; exact (Below.refl _ _).alloc (Nat.le_refl _) _)
  have SL6 := Lib.hid (show IsSl oprRep W1 (fun b => W0.heap.size ≤ b ∧ b < T) A5 m5 ops by rw [HT.out]; exact SL5.out)
  have R1 := Lib.hid (R0.out.after B1.out)
  have K1 := Lib.hid (K0.out.after B1.out)
  have Bw1 := Lib.hid (B0.out.trans (B1.out.mono B0.out.size))
  rw [← HT.out, ← hW]
  clear hT hW SL5
  go_wp2_with fail
  go_loopw [6] (fun i wr => ∃ (k : Nat) (v3 : Value), i = .int .i64 k ∧ k ≤ n2 ∧ k ≤ 4 ∧ Own noteRep wr (T + 1) (fun _ => False) 27 v3 ((xn.take k).map (someNote L)) ∧ Blk wr T [.int .i64 L, .slice A5 m5 c5, v3] ∧ Below T W1 wr) (fun i _ => n2 - (intOf i).toNat)
  case atStart => exact ⟨0, _, rfl, Nat.zero_le _, Nat.zero_le _, Own.nil _ _ _ (fun _ h => h.elim) _ _, TW.out, BW.out⟩
  case round =>
    obtain ⟨k, v3, rfl, hk, hk5, hown, hat, hbel⟩ := hrel
    obtain ⟨P, hP⟩ : ∃ P, P = (xn.take k).map (someNote L) := ⟨_, rfl⟩
    rw [← hP] at hown
    have hPl : P.length ≤ 4 := by rw [hP, List.length_map, List.length_take]; omega
    have HP := Lib.hid hP
    have OW := Lib.hid hown
    have AT := Lib.hid hat
    have BE := Lib.hid hbel
    have HRT : Hid (∀ q, rowOf v3 = some q → T < q) := Lib.hid (fun q hq => Nat.lt_of_succ_le (OW.out.row_ge hq))
    have hTs := hat.lt
    have hwr0 : w.heap.size < wr.heap.size := by omega
    obtain ⟨k0, k1, k2, kz⟩ := (K1.out.below BE.out (by omega)).c3
    clear hP hown hat hbel
    by_cases hlt : k < n2 ∧ k < 4
    · obtain ⟨h1, h2⟩ := hlt
      obtain ⟨b, off, x, rfl, hbS, hx, hwf, c0, c1, c3, c4, c5', c6, c7⟩ := H2.out.note h1 (fun p hp => (BE.out.cell (p := p) (by omega)).trans (Bw1.out.cell hp))
      have hd1 : decide ((k : Int) < (n2 : Int)) = true := decide_eq_true (by omega)
      have hd2 : decide ((k : Int) < 4) = true := decide_eq_true (by omega)
      have hkm : (k : Int) < (n2 : Int) := by omega
      have HSN := Lib.hid (show (xn.take (k + 1)).map (someNote L) = P ++ [someNote L x] by rw [take_snoc hx, List.map_append, ← HP.out]; rfl)
      have HPW := Lib.hid (mayNot_wf (someNote_may L x hL0) hL1)
      obtain ⟨xk, xi, xt, xw, xa, xc, xd⟩ := x
      dsimp only at c0 c1 c3 c4 c5' c6 c7
      have hr1 := modOf_range xi 64 (by omega)
      have hr2 := modOf_range xt 8 (by omega)
      have hr3 := modOf_range xw 8 (by omega)
      have hr4 := modOf_range xa L hL0
      have hr5 := modOf_range xc 1099511627777 (by omega)
      obtain ⟨q0, hq0⟩ : ∃ q, q = modOf xk 2 := ⟨_, rfl⟩
      obtain ⟨q1, hq1⟩ : ∃ q, q = modOf xi 64 := ⟨_, rfl⟩
      obtain ⟨q2, hq2⟩ : ∃ q, q = modOf xt 8 := ⟨_, rfl⟩
      obtain ⟨q3, hq3⟩ : ∃ q, q = modOf xw 8 := ⟨_, rfl⟩
      obtain ⟨q4, hq4⟩ : ∃ q, q = modOf xa L := ⟨_, rfl⟩
      obtain ⟨q5, hq5⟩ : ∃ q, q = modOf xc 1099511627777 := ⟨_, rfl⟩
      rw [← hq1] at hr1
      rw [← hq2] at hr2
      rw [← hq3] at hr3
      rw [← hq4] at hr4
      rw [← hq5] at hr5
      have HQ0 := Lib.hid hq0
      have HQ1 := Lib.hid hq1
      have HQ2 := Lib.hid hq2
      have HQ3 := Lib.hid hq3
      have HQ4 := Lib.hid hq4
      have HQ5 := Lib.hid hq5
      clear hx hwf hq0 hq1 hq2 hq3 hq4 hq5 h1
      obtain ⟨V, hV⟩ : ∃ V, V = wr.alloc (.cells #[.int .i64 xk, .int .i64 xi, .int .i64 xt, .int .i64 xw, .int .i64 xa, .int .i64 xc, .bool xd] 27) := ⟨_, rfl⟩
      obtain ⟨D, hD⟩ : ∃ D, D = wr.heap.size := ⟨_, rfl⟩
      have hTD : T < D := by rw [hD]; exact hTs
      have BV := Lib.hid (show Below wr.heap.size wr V by rw [hV]; exact (Below.refl _ _).alloc (Nat.le_refl _) _)
      have KD := Lib.hid (show Blk V D [.int .i64 xk, .int .i64 xi, .int .i64 xt, .int .i64 xw, .int .i64 xa, .int .i64 xc, .bool xd] by rw [hV, hD]; exact Blk.new rfl rfl)
      have ATV := Lib.hid (AT.out.after BV.out)
      have OWV := Lib.hid (OW.out.below BV.out)
      have BEV := Lib.hid (BE.out.trans (BV.out.mono (Nat.le_of_lt hTs)))
      have HRD : Hid (∀ r, rowOf v3 = some r → r < D) := Lib.hid (fun r hr => by rw [hD]; exact OW.out.row_lt hr)
      have hTV : T < V.heap.size := ATV.out.lt
      have hDV : D < V.heap.size := KD.out.lt
      have hTVd : T < V.drew.heap.size := hTV
      have HV := Lib.hid hV
      have HDD := Lib.hid hD
      clear hV hD
      have OWD := Lib.hid OWV.out.drew
      have BED := Lib.hid (below_drewN BEV.out 1)
      have ATD := Lib.hid ATV.out.drew
      have KDD := Lib.hid KD.out.drew
      have hX2 : ∀ o : Obj, (V.alloc o).cell? ⟨T, 2, none⟩ = some v3 := fun o => (ATV.out.alloc o).1 2 _ rfl
      have hw1 : IntKind.i64.wrap (1 + q1) = 1 + q1 := IntWalk.i64_in _ (by omega)
      have hw3 : IntKind.i64.wrap (1 + q3) = 1 + q3 := IntWalk.i64_in _ (by omega)
      have hw4 : IntKind.i64.wrap (1 + q4) = 1 + q4 := IntWalk.i64_in _ (by omega)
      by_cases hk0 : q0 = 0
      · have HYE := Lib.hid (show someNote L ⟨xk, xi, xt, xw, xa, xc, xd⟩ = (⟨1, 1 + q1, q2, 1 + q3, 1 + q4, 0, false⟩ : Note) by unfold someNote; dsimp only; rw [← HQ0.out, if_pos hk0, ← HQ1.out, ← HQ2.out, ← HQ3.out, ← HQ4.out])
        rw [HYE.out] at HPW HSN
        have hkb : (q0 == 0) = true := by simpa using hk0
        clear hk0
        go_upto_region 7 with (first
          | (go_at_call 17; (with_reducible refine (mod_any xk 2 _ (by omega) (by omega)).mono ?_); rintro e w' ⟨rfl, rfl⟩; rw [← HQ0.out])
          | fail)
        rw [← HDD.out, ← HV.out]
        clear c0 c1 c3 c4 c5' c6 c7 k0 k1 k2 kz
        obtain ⟨d0, d1, d2, d3, d4, d5, d6, dz⟩ := KD.out.c7
        obtain ⟨t0, t1, t2, tz⟩ := ATV.out.c3
        have hA : ∀ o : Obj, (V.alloc o).cell? ⟨D, 1, none⟩ = some (.int .i64 xi) ∧ (V.alloc o).cell? ⟨D, 2, none⟩ = some (.int .i64 xt) ∧ (V.alloc o).cell? ⟨D, 3, none⟩ = some (.int .i64 xw) ∧ (V.alloc o).cell? ⟨D, 4, none⟩ = some (.int .i64 xa) ∧ (V.alloc o).cell? ⟨T, 0, none⟩ = some (.int .i64 L) := fun o => ⟨(KD.out.alloc o).1 1 _ rfl, (KD.out.alloc o).1 2 _ rfl, (KD.out.alloc o).1 3 _ rfl, (KD.out.alloc o).1 4 _ rfl, (ATV.out.alloc o).1 0 _ rfl⟩
        have HSRC := Lib.hid (show Src noteRep (V.drew.alloc (.cells #[.int .i64 1, .int .i64 (1 + q1), .int .i64 q2, .int .i64 (1 + q3), .int .i64 (1 + q4), .int .i64 0, .bool false] 27)) (fun _ => False) (some ⟨V.heap.size, 0, none⟩) 1 [(⟨1, 1 + q1, q2, 1 + q3, 1 + q4, 0, false⟩ : Note)] from Src.new (R := noteRep) (w := V.drew) (e := 27) (S := fun _ => False) (a := (⟨1, 1 + q1, q2, 1 + q3, 1 + q4, 0, false⟩ : Note)) (cs := (⟨1, 1 + q1, q2, 1 + q3, 1 + q4, 0, false⟩ : Note).cells) ⟨rfl, HPW.out⟩)
        refine wp_region_held_drew (S := fun w' => w'.cell? ⟨D, 1, none⟩ = some (.int .i64 xi) ∧ w'.cell? ⟨D, 2, none⟩ = some (.int .i64 xt) ∧ w'.cell? ⟨D, 3, none⟩ = some (.int .i64 xw) ∧ w'.cell? ⟨D, 4, none⟩ = some (.int .i64 xa) ∧ w'.cell? ⟨T, 0, none⟩ = some (.int .i64 L)) (by kernel_rfl) (⟨d1, d2, d3, d4, t0⟩) (fun hHeld => ?_)
        (refine wpAnyH_take (i := 0) (v := ?_) rfl (by kernel_rfl) (by kernel_rfl) (by kernel_rfl) (fun _ _ _ h => h) (Or.inl ⟨by rfl, ?_⟩) hHeld ?_; rotate_left 1; focus (intro w hSw; (try dsimp only at hSw); go_simp; try with_reducible rfl)); (try simp only [Act.put, List.setIfInBounds_toArray, List.set_cons_zero, List.set_cons_succ])
        (refine wpAnyH_take (i := 2) (v := ?_) rfl (by kernel_rfl) (by kernel_rfl) (by kernel_rfl) (fun _ _ _ h => h) (Or.inl ⟨by rfl, ?_⟩) hHeld ?_; rotate_left 1; focus (intro w hSw; (try dsimp only at hSw); go_simp; try with_reducible rfl)); (try simp only [Act.put, List.setIfInBounds_toArray, List.set_cons_zero, List.set_cons_succ])
        (refine wpAnyH_take (i := 3) (v := ?_) rfl (by kernel_rfl) (by kernel_rfl) (by kernel_rfl) (fun _ _ _ h => h) (Or.inl ⟨by rfl, ?_⟩) hHeld ?_; rotate_left 1; focus (intro w hSw; (try dsimp only at hSw); go_simp; try with_reducible rfl)); (try simp only [Act.put, List.setIfInBounds_toArray, List.set_cons_zero, List.set_cons_succ])
        (refine wpAnyH_take (i := 6) (v := ?_) rfl (by kernel_rfl) (by kernel_rfl) (by kernel_rfl) (fun _ _ _ h => h) (Or.inl ⟨by rfl, ?_⟩) hHeld ?_; rotate_left 1; focus (intro w hSw; (try dsimp only at hSw); go_simp; try with_reducible rfl)); (try simp only [Act.put, List.setIfInBounds_toArray, List.set_cons_zero, List.set_cons_succ])
        (refine wpAnyH_take (i := 7) (v := ?_) rfl (by kernel_rfl) (by kernel_rfl) (by kernel_rfl) (fun _ _ _ h => h) (Or.inl ⟨by rfl, ?_⟩) hHeld ?_; rotate_left 1; focus (intro w hSw; (try dsimp only at hSw); go_simp; try with_reducible rfl)); (try simp only [Act.put, List.setIfInBounds_toArray, List.set_cons_zero, List.set_cons_succ])
        (refine wpAnyH_take (i := 9) (v := ?_) rfl (by kernel_rfl) (by kernel_rfl) (by kernel_rfl) (fun _ _ _ h => h) (Or.inl ⟨by rfl, ?_⟩) hHeld ?_; rotate_left 1; focus (intro w hSw; (try dsimp only at hSw); go_simp; try with_reducible rfl)); (try simp only [Act.put, List.setIfInBounds_toArray, List.set_cons_zero, List.set_cons_succ])
        (refine wpAnyH_take (i := 10) (v := ?_) rfl (by kernel_rfl) (by kernel_rfl) (by kernel_rfl) (fun _ _ _ h => h) (Or.inl ⟨by rfl, ?_⟩) hHeld ?_; rotate_left 1; focus (intro w hSw; (try dsimp only at hSw); go_simp; try with_reducible rfl)); (try simp only [Act.put, List.setIfInBounds_toArray, List.set_cons_zero, List.set_cons_succ])
        (refine wpAnyH_take (i := 13) (v := ?_) rfl (by kernel_rfl) (by kernel_rfl) (by kernel_rfl) (fun _ _ _ h => h) (Or.inl ⟨by rfl, ?_⟩) hHeld ?_; rotate_left 1; focus (intro w hSw; (try dsimp only at hSw); go_simp; try with_reducible rfl)); (try simp only [Act.put, List.setIfInBounds_toArray, List.set_cons_zero, List.set_cons_succ])
        (refine wpAnyH_take (i := 14) (v := ?_) rfl (by kernel_rfl) (by kernel_rfl) (by kernel_rfl) (fun _ _ _ h => h) (Or.inl ⟨by rfl, ?_⟩) hHeld ?_; rotate_left 1; focus (intro w hSw; (try dsimp only at hSw); go_simp; try with_reducible rfl)); (try simp only [Act.put, List.setIfInBounds_toArray, List.set_cons_zero, List.set_cons_succ])
        (refine wpAnyH_take (i := 15) (v := ?_) rfl (by kernel_rfl) (by kernel_rfl) (by kernel_rfl) (fun _ _ _ h => h) (Or.inl ⟨by rfl, ?_⟩) hHeld ?_; rotate_left 1; focus (intro w hSw; (try dsimp only at hSw); go_simp; try with_reducible rfl)); (try simp only [Act.put, List.setIfInBounds_toArray, List.set_cons_zero, List.set_cons_succ])
        (refine wpAnyH_take (i := 16) (v := ?_) rfl (by kernel_rfl) (by kernel_rfl) (by kernel_rfl) (fun _ _ _ h => h) (Or.inl ⟨by rfl, ?_⟩) hHeld ?_; rotate_left 1; focus (intro w hSw; (try dsimp only at hSw); go_simp; try with_reducible rfl)); (try simp only [Act.put, List.setIfInBounds_toArray, List.set_cons_zero, List.set_cons_succ])
        refine wpAnyH_ready (rs := [1, 4]) (by kernel_rfl) (by simp) ?_
        refine AllReadyH.cons rfl (fun K hK => ?_) (AllReadyH.cons rfl (fun K hK => ?_) AllReadyH.nil)
        · go_simp
          refine hK.out _ _ (hHeld) (fun _ => ?_)
          clear hK K
          refine wpAnyH_ready (rs := [4]) (by kernel_rfl) (by simp) ?_
          refine AllReadyH.cons rfl (fun K hK => ?_) AllReadyH.nil
          go_simp
          go_at_call 17; (with_reducible refine (mod_any xi 64 _ (by omega) (by omega)).mono ?_); rintro e w' ⟨rfl, rfl⟩; rw [← HQ1.out]
          refine hK.out _ _ (hHeld) (fun _ => ?_)
          clear hK K
          (refine wpAnyH_take (i := 5) (v := ?_) rfl (by kernel_rfl) (by kernel_rfl) (by kernel_rfl) (fun _ _ _ h => h) (Or.inl ⟨by rfl, ?_⟩) hHeld ?_; rotate_left 1; focus (intro w hSw; (try dsimp only at hSw); go_simp; try with_reducible rfl)); (try simp only [Act.put, List.setIfInBounds_toArray, List.set_cons_zero, List.set_cons_succ])
          refine wpAnyH_ready (rs := [8]) (by kernel_rfl) (by simp) ?_
          refine AllReadyH.cons rfl (fun K hK => ?_) AllReadyH.nil
          go_simp
          go_at_call 17; (with_reducible refine (mod_any xt 8 _ (by omega) (by omega)).mono ?_); rintro e w' ⟨rfl, rfl⟩; rw [← HQ2.out]
          refine hK.out _ _ (hHeld) (fun _ => ?_)
          clear hK K
          refine wpAnyH_ready (rs := [11]) (by kernel_rfl) (by simp) ?_
          refine AllReadyH.cons rfl (fun K hK => ?_) AllReadyH.nil
          go_simp
          go_at_call 17; (with_reducible refine (mod_any xw 8 _ (by omega) (by omega)).mono ?_); rintro e w' ⟨rfl, rfl⟩; rw [← HQ3.out]
          refine hK.out _ _ (hHeld) (fun _ => ?_)
          clear hK K
          (refine wpAnyH_take (i := 12) (v := ?_) rfl (by kernel_rfl) (by kernel_rfl) (by kernel_rfl) (fun _ _ _ h => h) (Or.inl ⟨by rfl, ?_⟩) hHeld ?_; rotate_left 1; focus (intro w hSw; (try dsimp only at hSw); go_simp; try with_reducible rfl)); (try simp only [Act.put, List.setIfInBounds_toArray, List.set_cons_zero, List.set_cons_succ])
          refine wpAnyH_ready (rs := [17]) (by kernel_rfl) (by simp) ?_
          refine AllReadyH.cons rfl (fun K hK => ?_) AllReadyH.nil
          go_simp
          go_at_call 23; (with_reducible refine (big_any xa L _ (by omega) (by omega)).mono ?_); rintro e w' ⟨rfl, rfl⟩; rw [← HQ4.out]
          refine hK.out _ _ (hHeld) (fun _ => ?_)
          clear hK K
          (refine wpAnyH_take (i := 18) (v := ?_) rfl (by kernel_rfl) (by kernel_rfl) (by kernel_rfl) (fun _ _ _ h => h) (Or.inl ⟨by rfl, ?_⟩) hHeld ?_; rotate_left 1; focus (intro w hSw; (try dsimp only at hSw); go_simp; try with_reducible rfl)); (try simp only [Act.put, List.setIfInBounds_toArray, List.set_cons_zero, List.set_cons_succ])
          (refine wpAnyH_take (i := 19) (v := ?_) rfl (by kernel_rfl) (by kernel_rfl) (by kernel_rfl) (fun _ _ _ h => h) (Or.inl ⟨by rfl, ?_⟩) hHeld ?_; rotate_left 1; focus (intro w hSw; (try dsimp only at hSw); go_simp; try with_reducible rfl)); (try simp only [Act.put, List.setIfInBounds_toArray, List.set_cons_zero, List.set_cons_succ])
          refine wpAnyH_ready (rs := [20]) (by kernel_rfl) (by simp) ?_
          refine AllReadyH.cons rfl (fun K hK => ?_) AllReadyH.nil
          go_simp
          refine hK.out _ _ (hA _) (fun hHeldA => ?_)
          clear hK K
          refine wpAnyH_ready (rs := [21]) (by kernel_rfl) (by simp) ?_
          refine AllReadyH.cons rfl (fun K hK => ?_) AllReadyH.nil
          refine step_append_Own (w := V.drew.alloc (.cells #[.int .i64 1, .int .i64 (1 + q1), .int .i64 q2, .int .i64 (1 + q3), .int .i64 (1 + q4), .int .i64 0, .bool false] 27)) rfl (.tmp 32) (.tmp 51) 23 rfl (T + 1) 27 i0 _ 56 Try.underlying23 hi hz0 hz1 hz2 rfl (R := noteRep) (S := fun _ => False) (l := P) (l' := [(⟨1, 1 + q1, q2, 1 + q3, 1 + q4, 0, false⟩ : Note)]) v3 rfl (OWD.out.alloc _) _ 1 1 rfl HSRC.out (by simp only [maxLen]; omega) (by omega) (by omega) (by simp; omega) ?_
          intro v8 w8 own8 gr8 at8
          obtain ⟨A8, c8, hv8, hlc8, hcm8, sl8⟩ := own8.isSlB
          obtain ⟨m8, hm8⟩ : ∃ m8, m8 = (P ++ [(⟨1, 1 + q1, q2, 1 + q3, 1 + q4, 0, false⟩ : Note)]).length := ⟨_, rfl⟩
          rw [← hm8] at hv8
          subst hv8
          clear hm8 hlc8 hcm8 sl8
          have AT8 := Lib.hid ((ATD.out.alloc _).grown gr8 (fun k hk e => by have := HRT.out k hk; omega))
          have KD8 := Lib.hid ((KDD.out.alloc _).grown gr8 (fun k hk e => by have := HRD.out k hk; omega))
          have BE8 := Lib.hid ((BED.out.alloc (Nat.le_of_lt hTVd) _).grown gr8 (by simp; omega) (fun k hk => by have := HRT.out k hk; omega))
          have OW8 := Lib.hid own8
          clear own8 gr8 at8
          obtain ⟨s0, s1, s2, sz⟩ := AT8.out.c3
          refine hK.out _ _ ⟨KD8.out.1 1 _ rfl, KD8.out.1 2 _ rfl, KD8.out.1 3 _ rfl, KD8.out.1 4 _ rfl, AT8.out.1 0 _ rfl⟩ (fun hHeld8 => ?_)
          clear hK K
          (refine wpAnyH_take (i := 22) (v := ?_) rfl (by kernel_rfl) (by kernel_rfl) (by kernel_rfl) (fun _ _ _ h => h) (Or.inl ⟨by rfl, ?_⟩) hHeld8 ?_; rotate_left 1; focus (intro w hSw; (try dsimp only at hSw); go_simp; try with_reducible rfl)); (try simp only [Act.put, List.setIfInBounds_toArray, List.set_cons_zero, List.set_cons_succ])
          refine wpAnyH_ready (rs := [23]) (by kernel_rfl) (by simp) ?_
          refine AllReadyH.cons rfl (fun K hK => ?_) AllReadyH.nil
          go_simp
          refine hK.out _ _ ⟨(KD8.out.other (by omega) 2 _).1 1 _ rfl, (KD8.out.other (by omega) 2 _).1 2 _ rfl, (KD8.out.other (by omega) 2 _).1 3 _ rfl, (KD8.out.other (by omega) 2 _).1 4 _ rfl, (AT8.out.put (j := 2) (by simp) _ rfl).1 0 _ rfl⟩ (fun _ => ?_)
          clear hK K
          refine wpAnyH_done (by kernel_rfl) ?_ _
          go_wp2_with fail
          go_roundw
          case rel => exact ⟨k + 1, _, by go_num, by omega, by omega, by rw [HSN.out]; exact OW8.out.kept (grownBy_set w8 ⟨T, 2, none⟩ _) (fun k hk => ⟨fun e => (by have h1 := OW8.out.row_ge e; injection hk with hk; dsimp only at hk; omega), id⟩), AT8.out.put (by simp) _ rfl, BE8.out.setCell (p := ⟨T, 2, none⟩) (Nat.le_refl _) _⟩
          case measure => simp [intOf]; omega
        · go_simp
          go_at_call 17; (with_reducible refine (mod_any xi 64 _ (by omega) (by omega)).mono ?_); rintro e w' ⟨rfl, rfl⟩; rw [← HQ1.out]
          refine hK.out _ _ (hHeld) (fun _ => ?_)
          clear hK K
          (refine wpAnyH_take (i := 5) (v := ?_) rfl (by kernel_rfl) (by kernel_rfl) (by kernel_rfl) (fun _ _ _ h => h) (Or.inl ⟨by rfl, ?_⟩) hHeld ?_; rotate_left 1; focus (intro w hSw; (try dsimp only at hSw); go_simp; try with_reducible rfl)); (try simp only [Act.put, List.setIfInBounds_toArray, List.set_cons_zero, List.set_cons_succ])
          refine wpAnyH_ready (rs := [1, 8]) (by kernel_rfl) (by simp) ?_
          refine AllReadyH.cons rfl (fun K hK => ?_) (AllReadyH.cons rfl (fun K hK => ?_) AllReadyH.nil)
          · go_simp
            refine hK.out _ _ (hHeld) (fun _ => ?_)
            clear hK K
            refine wpAnyH_ready (rs := [8]) (by kernel_rfl) (by simp) ?_
            refine AllReadyH.cons rfl (fun K hK => ?_) AllReadyH.nil
            go_simp
            go_at_call 17; (with_reducible refine (mod_any xt 8 _ (by omega) (by omega)).mono ?_); rintro e w' ⟨rfl, rfl⟩; rw [← HQ2.out]
            refine hK.out _ _ (hHeld) (fun _ => ?_)
            clear hK K
            refine wpAnyH_ready (rs := [11]) (by kernel_rfl) (by simp) ?_
            refine AllReadyH.cons rfl (fun K hK => ?_) AllReadyH.nil
            go_simp
            go_at_call 17; (with_reducible refine (mod_any xw 8 _ (by omega) (by omega)).mono ?_); rintro e w' ⟨rfl, rfl⟩; rw [← HQ3.out]
            refine hK.out _ _ (hHeld) (fun _ => ?_)
            clear hK K
            (refine wpAnyH_take (i := 12) (v := ?_) rfl (by kernel_rfl) (by kernel_rfl) (by kernel_rfl) (fun _ _ _ h => h) (Or.inl ⟨by rfl, ?_⟩) hHeld ?_; rotate_left 1; focus (intro w hSw; (try dsimp only at hSw); go_simp; try with_reducible rfl)); (try simp only [Act.put, List.setIfInBounds_toArray, List.set_cons_zero, List.set_cons_succ])
            refine wpAnyH_ready (rs := [17]) (by kernel_rfl) (by simp) ?_
            refine AllReadyH.cons rfl (fun K hK => ?_) AllReadyH.nil
            go_simp
            go_at_call 23; (with_reducible refine (big_any xa L _ (by omega) (by omega)).mono ?_); rintro e w' ⟨rfl, rfl⟩; rw [← HQ4.out]
            refine hK.out _ _ (hHeld) (fun _ => ?_)
            clear hK K
            (refine wpAnyH_take (i := 18) (v := ?_) rfl (by kernel_rfl) (by kernel_rfl) (by kernel_rfl) (fun _ _ _ h => h) (Or.inl ⟨by rfl, ?_⟩) hHeld ?_; rotate_left 1; focus (intro w hSw; (try dsimp only at hSw); go_simp; try with_reducible rfl)); (try simp only [Act.put, List.setIfInBounds_toArray, List.set_cons_zero, List.set_cons_succ])
            (refine wpAnyH_take (i := 19) (v := ?_) rfl (by kernel_rfl) (by kernel_rfl) (by kernel_rfl) (fun _ _ _ h => h) (Or.inl ⟨by rfl, ?_⟩) hHeld ?_; rotate_left 1; focus (intro w hSw; (try dsimp only at hSw); go_simp; try with_reducible rfl)); (try simp only [Act.put, List.setIfInBounds_toArray, List.set_cons_zero, List.set_cons_succ])
            refine wpAnyH_ready (rs := [20]) (by kernel_rfl) (by simp) ?_
            refine AllReadyH.cons rfl (fun K hK => ?_) AllReadyH.nil
            go_simp
            refine hK.out _ _ (hA _) (fun hHeldA => ?_)
            clear hK K
            refine wpAnyH_ready (rs := [21]) (by kernel_rfl) (by simp) ?_
            refine AllReadyH.cons rfl (fun K hK => ?_) AllReadyH.nil
            refine step_append_Own (w := V.drew.alloc (.cells #[.int .i64 1, .int .i64 (1 + q1), .int .i64 q2, .int .i64 (1 + q3), .int .i64 (1 + q4), .int .i64 0, .bool false] 27)) rfl (.tmp 32) (.tmp 51) 23 rfl (T + 1) 27 i0 _ 56 Try.underlying23 hi hz0 hz1 hz2 rfl (R := noteRep) (S := fun _ => False) (l := P) (l' := [(⟨1, 1 + q1, q2, 1 + q3, 1 + q4, 0, false⟩ : Note)]) v3 rfl (OWD.out.alloc _) _ 1 1 rfl HSRC.out (by simp only [maxLen]; omega) (by omega) (by omega) (by simp; omega) ?_
            intro v8 w8 own8 gr8 at8
            obtain ⟨A8, c8, hv8, hlc8, hcm8, sl8⟩ := own8.isSlB
            obtain ⟨m8, hm8⟩ : ∃ m8, m8 = (P ++ [(⟨1, 1 + q1, q2, 1 + q3, 1 + q4, 0, false⟩ : Note)]).length := ⟨_, rfl⟩
            rw [← hm8] at hv8
            subst hv8
            clear hm8 hlc8 hcm8 sl8
            have AT8 := Lib.hid ((ATD.out.alloc _).grown gr8 (fun k hk e => by have := HRT.out k hk; omega))
            have KD8 := Lib.hid ((KDD.out.alloc _).grown gr8 (fun k hk e => by have := HRD.out k hk; omega))
            have BE8 := Lib.hid ((BED.out.alloc (Nat.le_of_lt hTVd) _).grown gr8 (by simp; omega) (fun k hk => by have := HRT.out k hk; omega))
            have OW8 := Lib.hid own8
            clear own8 gr8 at8
            obtain ⟨s0, s1, s2, sz⟩ := AT8.out.c3
            refine hK.out _ _ ⟨KD8.out.1 1 _ rfl, KD8.out.1 2 _ rfl, KD8.out.1 3 _ rfl, KD8.out.1 4 _ rfl, AT8.out.1 0 _ rfl⟩ (fun hHeld8 => ?_)
            clear hK K
            (refine wpAnyH_take (i := 22) (v := ?_) rfl (by kernel_rfl) (by kernel_rfl) (by kernel_rfl) (fun _ _ _ h => h) (Or.inl ⟨by rfl, ?_⟩) hHeld8 ?_; rotate_left 1; focus (intro w hSw; (try dsimp only at hSw); go_simp; try with_reducible rfl)); (try simp only [Act.put, List.setIfInBounds_toArray, List.set_cons_zero, List.set_cons_succ])
            refine wpAnyH_ready (rs := [23]) (by kernel_rfl) (by simp) ?_
            refine AllReadyH.cons rfl (fun K hK => ?_) AllReadyH.nil
            go_simp
            refine hK.out _ _ ⟨(KD8.out.other (by omega) 2 _).1 1 _ rfl, (KD8.out.other (by omega) 2 _).1 2 _ rfl, (KD8.out.other (by omega) 2 _).1 3 _ rfl, (KD8.out.other (by omega) 2 _).1 4 _ rfl, (AT8.out.put (j := 2) (by simp) _ rfl).1 0 _ rfl⟩ (fun _ => ?_)
            clear hK K
            refine wpAnyH_done (by kernel_rfl) ?_ _
            go_wp2_with fail
            go_roundw
            case rel => exact ⟨k + 1, _, by go_num, by omega, by omega, by rw [HSN.out]; exact OW8.out.kept (grownBy_set w8 ⟨T, 2, none⟩ _) (fun k hk => ⟨fun e => (by have h1 := OW8.out.row_ge e; injection hk with hk; dsimp only at hk; omega), id⟩), AT8.out.put (by simp) _ rfl, BE8.out.setCell (p := ⟨T, 2, none⟩) (Nat.le_refl _) _⟩
            case measure => simp [intOf]; omega
          · go_simp
            go_at_call 17; (with_reducible refine (mod_any xt 8 _ (by omega) (by omega)).mono ?_); rintro e w' ⟨rfl, rfl⟩; rw [← HQ2.out]
            refine hK.out _ _ (hHeld) (fun _ => ?_)
            clear hK K
            refine wpAnyH_ready (rs := [1, 11]) (by kernel_rfl) (by simp) ?_
            refine AllReadyH.cons rfl (fun K hK => ?_) (AllReadyH.cons rfl (fun K hK => ?_) AllReadyH.nil)
            · go_simp
              refine hK.out _ _ (hHeld) (fun _ => ?_)
              clear hK K
              refine wpAnyH_ready (rs := [11]) (by kernel_rfl) (by simp) ?_
              refine AllReadyH.cons rfl (fun K hK => ?_) AllReadyH.nil
              go_simp
              go_at_call 17; (with_reducible refine (mod_any xw 8 _ (by omega) (by omega)).mono ?_); rintro e w' ⟨rfl, rfl⟩; rw [← HQ3.out]
              refine hK.out _ _ (hHeld) (fun _ => ?_)
              clear hK K
              (refine wpAnyH_take (i := 12) (v := ?_) rfl (by kernel_rfl) (by kernel_rfl) (by kernel_rfl) (fun _ _ _ h => h) (Or.inl ⟨by rfl, ?_⟩) hHeld ?_; rotate_left 1; focus (intro w hSw; (try dsimp only at hSw); go_simp; try with_reducible rfl)); (try simp only [Act.put, List.setIfInBounds_toArray, List.set_cons_zero, List.set_cons_succ])
              refine wpAnyH_ready (rs := [17]) (by kernel_rfl) (by simp) ?_
              refine AllReadyH.cons rfl (fun K hK => ?_) AllReadyH.nil
              go_simp
              go_at_call 23; (with_reducible refine (big_any xa L _ (by omega) (by omega)).mono ?_); rintro e w' ⟨rfl, rfl⟩; rw [← HQ4.out]
              refine hK.out _ _ (hHeld) (fun _ => ?_)
              clear hK K
              (refine wpAnyH_take (i := 18) (v := ?_) rfl (by kernel_rfl) (by kernel_rfl) (by kernel_rfl) (fun _ _ _ h => h) (Or.inl ⟨by rfl, ?_⟩) hHeld ?_; rotate_left 1; focus (intro w hSw; (try dsimp only at hSw); go_simp; try with_reducible rfl)); (try simp only [Act.put, List.setIfInBounds_toArray, List.set_cons_zero, List.set_cons_succ])
              (refine wpAnyH_take (i := 19) (v := ?_) rfl (by kernel_rfl) (by kernel_rfl) (by kernel_rfl) (fun _ _ _ h => h) (Or.inl ⟨by rfl, ?_⟩) hHeld ?_; rotate_left 1; focus (intro w hSw; (try dsimp only at hSw); go_simp; try with_reducible rfl)); (try simp only [Act.put, List.setIfInBounds_toArray, List.set_cons_zero, List.set_cons_succ])
              refine wpAnyH_ready (rs := [20]) (by kernel_rfl) (by simp) ?_
              refine AllReadyH.cons rfl (fun K hK => ?_) AllReadyH.nil
              go_simp
              refine hK.out _ _ (hA _) (fun hHeldA => ?_)
              clear hK K
              refine wpAnyH_ready (rs := [21]) (by kernel_rfl) (by simp) ?_
              refine AllReadyH.cons rfl (fun K hK => ?_) AllReadyH.nil
              refine step_append_Own (w := V.drew.alloc (.cells #[.int .i64 1, .int .i64 (1 + q1), .int .i64 q2, .int .i64 (1 + q3), .int .i64 (1 + q4), .int .i64 0, .bool false] 27)) rfl (.tmp 32) (.tmp 51) 23 rfl (T + 1) 27 i0 _ 56 Try.underlying23 hi hz0 hz1 hz2 rfl (R := noteRep) (S := fun _ => False) (l := P) (l' := [(⟨1, 1 + q1, q2, 1 + q3, 1 + q4, 0, false⟩ : Note)]) v3 rfl (OWD.out.alloc _) _ 1 1 rfl HSRC.out (by simp only [maxLen]; omega) (by omega) (by omega) (by simp; omega) ?_
              intro v8 w8 own8 gr8 at8
              obtain ⟨A8, c8, hv8, hlc8, hcm8, sl8⟩ := own8.isSlB
              obtain ⟨m8, hm8⟩ : ∃ m8, m8 = (P ++ [(⟨1, 1 + q1, q2, 1 + q3, 1 + q4, 0, false⟩ : Note)]).length := ⟨_, rfl⟩
              rw [← hm8] at hv8
              subst hv8
              clear hm8 hlc8 hcm8 sl8
              have AT8 := Lib.hid ((ATD.out.alloc _).grown gr8 (fun k hk e => by have := HRT.out k hk; omega))
              have KD8 := Lib.hid ((KDD.out.alloc _).grown gr8 (fun k hk e => by have := HRD.out k hk; omega))
              have BE8 := Lib.hid ((BED.out.alloc (Nat.le_of_lt hTVd) _).grown gr8 (by simp; omega) (fun k hk => by have := HRT.out k hk; omega))
              have OW8 := Lib.hid own8
              clear own8 gr8 at8
              obtain ⟨s0, s1, s2, sz⟩ := AT8.out.c3
              refine hK.out _ _ ⟨KD8.out.1 1 _ rfl, KD8.out.1 2 _ rfl, KD8.out.1 3 _ rfl, KD8.out.1 4 _ rfl, AT8.out.1 0 _ rfl⟩ (fun hHeld8 => ?_)
              clear hK K
              (refine wpAnyH_take (i := 22) (v := ?_) rfl (by kernel_rfl) (by kernel_rfl) (by kernel_rfl) (fun _ _ _ h => h) (Or.inl ⟨by rfl, ?_⟩) hHeld8 ?_; rotate_left 1; focus (intro w hSw; (try dsimp only at hSw); go_simp; try with_reducible rfl)); (try simp only [Act.put, List.setIfInBounds_toArray, List.set_cons_zero, List.set_cons_succ])
              refine wpAnyH_ready (rs := [23]) (by kernel_rfl) (by simp) ?_
              refine AllReadyH.cons rfl (fun K hK => ?_) AllReadyH.nil
              go_simp
              refine hK.out _ _ ⟨(KD8.out.other (by omega) 2 _).1 1 _ rfl, (KD8.out.other (by omega) 2 _).1 2 _ rfl, (KD8.out.other (by omega) 2 _).1 3 _ rfl, (KD8.out.other (by omega) 2 _).1 4 _ rfl, (AT8.out.put (j := 2) (by simp) _ rfl).1 0 _ rfl⟩ (fun _ => ?_)
              clear hK K
              refine wpAnyH_done (by kernel_rfl) ?_ _
              go_wp2_with fail
              go_roundw
              case rel => exact ⟨k + 1, _, by go_num, by omega, by omega, by rw [HSN.out]; exact OW8.out.kept (grownBy_set w8 ⟨T, 2, none⟩ _) (fun k hk => ⟨fun e => (by have h1 := OW8.out.row_ge e; injection hk with hk; dsimp only at hk; omega), id⟩), AT8.out.put (by simp) _ rfl, BE8.out.setCell (p := ⟨T, 2, none⟩) (Nat.le_refl _) _⟩
              case measure => simp [intOf]; omega
            · go_simp
              go_at_call 17; (with_reducible refine (mod_any xw 8 _ (by omega) (by omega)).mono ?_); rintro e w' ⟨rfl, rfl⟩; rw [← HQ3.out]
              refine hK.out _ _ (hHeld) (fun _ => ?_)
              clear hK K
              (refine wpAnyH_take (i := 12) (v := ?_) rfl (by kernel_rfl) (by kernel_rfl) (by kernel_rfl) (fun _ _ _ h => h) (Or.inl ⟨by rfl, ?_⟩) hHeld ?_; rotate_left 1; focus (intro w hSw; (try dsimp only at hSw); go_simp; try with_reducible rfl)); (try simp only [Act.put, List.setIfInBounds_toArray, List.set_cons_zero, List.set_cons_succ])
              refine wpAnyH_ready (rs := [1, 17]) (by kernel_rfl) (by simp) ?_
              refine AllReadyH.cons rfl (fun K hK => ?_) (AllReadyH.cons rfl (fun K hK => ?_) AllReadyH.nil)
              · go_simp
                refine hK.out _ _ (hHeld) (fun _ => ?_)
                clear hK K
                refine wpAnyH_ready (rs := [17]) (by kernel_rfl) (by simp) ?_
                refine AllReadyH.cons rfl (fun K hK => ?_) AllReadyH.nil
                go_simp
                go_at_call 23; (with_reducible refine (big_any xa L _ (by omega) (by omega)).mono ?_); rintro e w' ⟨rfl, rfl⟩; rw [← HQ4.out]
                refine hK.out _ _ (hHeld) (fun _ => ?_)
                clear hK K
                (refine wpAnyH_take (i := 18) (v := ?_) rfl (by kernel_rfl) (by kernel_rfl) (by kernel_rfl) (fun _ _ _ h => h) (Or.inl ⟨by rfl, ?_⟩) hHeld ?_; rotate_left 1; focus (intro w hSw; (try dsimp only at hSw); go_simp; try with_reducible rfl)); (try simp only [Act.put, List.setIfInBounds_toArray, List.set_cons_zero, List.set_cons_succ])
                (refine wpAnyH_take (i := 19) (v := ?_) rfl (by kernel_rfl) (by kernel_rfl) (by kernel_rfl) (fun _ _ _ h => h) (Or.inl ⟨by rfl, ?_⟩) hHeld ?_; rotate_left 1; focus (intro w hSw; (try dsimp only at hSw); go_simp; try with_reducible rfl)); (try simp only [Act.put, List.setIfInBounds_toArray, List.set_cons_zero, List.set_cons_succ])
                refine wpAnyH_ready (rs := [20]) (by kernel_rfl) (by simp) ?_
                refine AllReadyH.cons rfl (fun K hK => ?_) AllReadyH.nil
                go_simp
                refine hK.out _ _ (hA _) (fun hHeldA => ?_)
                clear hK K
                refine wpAnyH_ready (rs := [21]) (by kernel_rfl) (by simp) ?_
                refine AllReadyH.cons rfl (fun K hK => ?_) AllReadyH.nil
                refine step_append_Own (w := V.drew.alloc (.cells #[.int .i64 1, .int .i64 (1 + q1), .int .i64 q2, .int .i64 (1 + q3), .int .i64 (1 + q4), .int .i64 0, .bool false] 27)) rfl (.tmp 32) (.tmp 51) 23 rfl (T + 1) 27 i0 _ 56 Try.underlying23 hi hz0 hz1 hz2 rfl (R := noteRep) (S := fun _ => False) (l := P) (l' := [(⟨1, 1 + q1, q2, 1 + q3, 1 + q4, 0, false⟩ : Note)]) v3 rfl (OWD.out.alloc _) _ 1 1 rfl HSRC.out (by simp only [maxLen]; omega) (by omega) (by omega) (by simp; omega) ?_
                intro v8 w8 own8 gr8 at8
                obtain ⟨A8, c8, hv8, hlc8, hcm8, sl8⟩ := own8.isSlB
                obtain ⟨m8, hm8⟩ : ∃ m8, m8 = (P ++ [(⟨1, 1 + q1, q2, 1 + q3, 1 + q4, 0, false⟩ : Note)]).length := ⟨_, rfl⟩
                rw [← hm8] at hv8
                subst hv8
                clear hm8 hlc8 hcm8 sl8
                have AT8 := Lib.hid ((ATD.out.alloc _).grown gr8 (fun k hk e => by have := HRT.out k hk; omega))
                have KD8 := Lib.hid ((KDD.out.alloc _).grown gr8 (fun k hk e => by have := HRD.out k hk; omega))
                have BE8 := Lib.hid ((BED.out.alloc (Nat.le_of_lt hTVd) _).grown gr8 (by simp; omega) (fun k hk => by have := HRT.out k hk; omega))
                have OW8 := Lib.hid own8
                clear own8 gr8 at8
                obtain ⟨s0, s1, s2, sz⟩ := AT8.out.c3
                refine hK.out _ _ ⟨KD8.out.1 1 _ rfl, KD8.out.1 2 _ rfl, KD8.out.1 3 _ rfl, KD8.out.1 4 _ rfl, AT8.out.1 0 _ rfl⟩ (fun hHeld8 => ?_)
                clear hK K
                (refine wpAnyH_take (i := 22) (v := ?_) rfl (by kernel_rfl) (by kernel_rfl) (by kernel_rfl) (fun _ _ _ h => h) (Or.inl ⟨by rfl, ?_⟩) hHeld8 ?_; rotate_left 1; focus (intro w hSw; (try dsimp only at hSw); go_simp; try with_reducible rfl)); (try simp only [Act.put, List.setIfInBounds_toArray, List.set_cons_zero, List.set_cons_succ])
                refine wpAnyH_ready (rs := [23]) (by kernel_rfl) (by simp) ?_
                refine AllReadyH.cons rfl (fun K hK => ?_) AllReadyH.nil
                go_simp
                refine hK.out _ _ ⟨(KD8.out.other (by omega) 2 _).1 1 _ rfl, (KD8.out.other (by omega) 2 _).1 2 _ rfl, (KD8.out.other (by omega) 2 _).1 3 _ rfl, (KD8.out.other (by omega) 2 _).1 4 _ rfl, (AT8.out.put (j := 2) (by simp) _ rfl).1 0 _ rfl⟩ (fun _ => ?_)
                clear hK K
                refine wpAnyH_done (by kernel_rfl) ?_ _
                go_wp2_with fail
                go_roundw
                case rel => exact ⟨k + 1, _, by go_num, by omega, by omega, by rw [HSN.out]; exact OW8.out.kept (grownBy_set w8 ⟨T, 2, none⟩ _) (fun k hk => ⟨fun e => (by have h1 := OW8.out.row_ge e; injection hk with hk; dsimp only at hk; omega), id⟩), AT8.out.put (by simp) _ rfl, BE8.out.setCell (p := ⟨T, 2, none⟩) (Nat.le_refl _) _⟩
                case measure => simp [intOf]; omega
              · go_simp
                go_at_call 23; (with_reducible refine (big_any xa L _ (by omega) (by omega)).mono ?_); rintro e w' ⟨rfl, rfl⟩; rw [← HQ4.out]
                refine hK.out _ _ (hHeld) (fun _ => ?_)
                clear hK K
                (refine wpAnyH_take (i := 18) (v := ?_) rfl (by kernel_rfl) (by kernel_rfl) (by kernel_rfl) (fun _ _ _ h => h) (Or.inl ⟨by rfl, ?_⟩) hHeld ?_; rotate_left 1; focus (intro w hSw; (try dsimp only at hSw); go_simp; try with_reducible rfl)); (try simp only [Act.put, List.setIfInBounds_toArray, List.set_cons_zero, List.set_cons_succ])
                (refine wpAnyH_take (i := 19) (v := ?_) rfl (by kernel_rfl) (by kernel_rfl) (by kernel_rfl) (fun _ _ _ h => h) (Or.inl ⟨by rfl, ?_⟩) hHeld ?_; rotate_left 1; focus (intro w hSw; (try dsimp only at hSw); go_simp; try with_reducible rfl)); (try simp only [Act.put, List.setIfInBounds_toArray, List.set_cons_zero, List.set_cons_succ])
                refine wpAnyH_ready (rs := [1, 20]) (by kernel_rfl) (by simp) ?_
                refine AllReadyH.cons rfl (fun K hK => ?_) (AllReadyH.cons rfl (fun K hK => ?_) AllReadyH.nil)
                · go_simp
                  refine hK.out _ _ (hHeld) (fun _ => ?_)
                  clear hK K
                  refine wpAnyH_ready (rs := [20]) (by kernel_rfl) (by simp) ?_
                  refine AllReadyH.cons rfl (fun K hK => ?_) AllReadyH.nil
                  go_simp
                  refine hK.out _ _ (hA _) (fun hHeldA => ?_)
                  clear hK K
                  refine wpAnyH_ready (rs := [21]) (by kernel_rfl) (by simp) ?_
                  refine AllReadyH.cons rfl (fun K hK => ?_) AllReadyH.nil
                  refine step_append_Own (w := V.drew.alloc (.cells #[.int .i64 1, .int .i64 (1 + q1), .int .i64 q2, .int .i64 (1 + q3), .int .i64 (1 + q4), .int .i64 0, .bool false] 27)) rfl (.tmp 32) (.tmp 51) 23 rfl (T + 1) 27 i0 _ 56 Try.underlying23 hi hz0 hz1 hz2 rfl (R := noteRep) (S := fun _ => False) (l := P) (l' := [(⟨1, 1 + q1, q2, 1 + q3, 1 + q4, 0, false⟩ : Note)]) v3 rfl (OWD.out.alloc _) _ 1 1 rfl HSRC.out (by simp only [maxLen]; omega) (by omega) (by omega) (by simp; omega) ?_
                  intro v8 w8 own8 gr8 at8
                  obtain ⟨A8, c8, hv8, hlc8, hcm8, sl8⟩ := own8.isSlB
                  obtain ⟨m8, hm8⟩ : ∃ m8, m8 = (P ++ [(⟨1, 1 + q1, q2, 1 + q3, 1 + q4, 0, false⟩ : Note)]).length := ⟨_, rfl⟩
                  rw [← hm8] at hv8
                  subst hv8
                  clear hm8 hlc8 hcm8 sl8
                  have AT8 := Lib.hid ((ATD.out.alloc _).grown gr8 (fun k hk e => by have := HRT.out k hk; omega))
                  have KD8 := Lib.hid ((KDD.out.alloc _).grown gr8 (fun k hk e => by have := HRD.out k hk; omega))
                  have BE8 := Lib.hid ((BED.out.alloc (Nat.le_of_lt hTVd) _).grown gr8 (by simp; omega) (fun k hk => by have := HRT.out k hk; omega))
                  have OW8 := Lib.hid own8
                  clear own8 gr8 at8
                  obtain ⟨s0, s1, s2, sz⟩ := AT8.out.c3
                  refine hK.out _ _ ⟨KD8.out.1 1 _ rfl, KD8.out.1 2 _ rfl, KD8.out.1 3 _ rfl, KD8.out.1 4 _ rfl, AT8.out.1 0 _ rfl⟩ (fun hHeld8 => ?_)
                  clear hK K
                  (refine wpAnyH_take (i := 22) (v := ?_) rfl (by kernel_rfl) (by kernel_rfl) (by kernel_rfl) (fun _ _ _ h => h) (Or.inl ⟨by rfl, ?_⟩) hHeld8 ?_; rotate_left 1; focus (intro w hSw; (try dsimp only at hSw); go_simp; try with_reducible rfl)); (try simp only [Act.put, List.setIfInBounds_toArray, List.set_cons_zero, List.set_cons_succ])
                  refine wpAnyH_ready (rs := [23]) (by kernel_rfl) (by simp) ?_
                  refine AllReadyH.cons rfl (fun K hK => ?_) AllReadyH.nil
                  go_simp
                  refine hK.out _ _ ⟨(KD8.out.other (by omega) 2 _).1 1 _ rfl, (KD8.out.other (by omega) 2 _).1 2 _ rfl, (KD8.out.other (by omega) 2 _).1 3 _ rfl, (KD8.out.other (by omega) 2 _).1 4 _ rfl, (AT8.out.put (j := 2) (by simp) _ rfl).1 0 _ rfl⟩ (fun _ => ?_)
                  clear hK K
                  refine wpAnyH_done (by kernel_rfl) ?_ _
                  go_wp2_with fail
                  go_roundw
                  case rel => exact ⟨k + 1, _, by go_num, by omega, by omega, by rw [HSN.out]; exact OW8.out.kept (grownBy_set w8 ⟨T, 2, none⟩ _) (fun k hk => ⟨fun e => (by have h1 := OW8.out.row_ge e; injection hk with hk; dsimp only at hk; omega), id⟩), AT8.out.put (by simp) _ rfl, BE8.out.setCell (p := ⟨T, 2, none⟩) (Nat.le_refl _) _⟩
                  case measure => simp [intOf]; omega
                · go_simp
                  refine hK.out _ _ (hA _) (fun hHeldA => ?_)
                  clear hK K
                  refine wpAnyH_ready (rs := [1]) (by kernel_rfl) (by simp) ?_
                  refine AllReadyH.cons rfl (fun K hK => ?_) AllReadyH.nil
                  go_simp
                  refine hK.out _ _ (hHeldA) (fun _ => ?_)
                  clear hK K
                  refine wpAnyH_ready (rs := [21]) (by kernel_rfl) (by simp) ?_
                  refine AllReadyH.cons rfl (fun K hK => ?_) AllReadyH.nil
                  refine step_append_Own (w := V.drew.alloc (.cells #[.int .i64 1, .int .i64 (1 + q1), .int .i64 q2, .int .i64 (1 + q3), .int .i64 (1 + q4), .int .i64 0, .bool false] 27)) rfl (.tmp 32) (.tmp 51) 23 rfl (T + 1) 27 i0 _ 56 Try.underlying23 hi hz0 hz1 hz2 rfl (R := noteRep) (S := fun _ => False) (l := P) (l' := [(⟨1, 1 + q1, q2, 1 + q3, 1 + q4, 0, false⟩ : Note)]) v3 rfl (OWD.out.alloc _) _ 1 1 rfl HSRC.out (by simp only [maxLen]; omega) (by omega) (by omega) (by simp; omega) ?_
                  intro v8 w8 own8 gr8 at8
                  obtain ⟨A8, c8, hv8, hlc8, hcm8, sl8⟩ := own8.isSlB
                  obtain ⟨m8, hm8⟩ : ∃ m8, m8 = (P ++ [(⟨1, 1 + q1, q2, 1 + q3, 1 + q4, 0, false⟩ : Note)]).length := ⟨_, rfl⟩
                  rw [← hm8] at hv8
                  subst hv8
                  clear hm8 hlc8 hcm8 sl8
                  have AT8 := Lib.hid ((ATD.out.alloc _).grown gr8 (fun k hk e => by have := HRT.out k hk; omega))
                  have KD8 := Lib.hid ((KDD.out.alloc _).grown gr8 (fun k hk e => by have := HRD.out k hk; omega))
                  have BE8 := Lib.hid ((BED.out.alloc (Nat.le_of_lt hTVd) _).grown gr8 (by simp; omega) (fun k hk => by have := HRT.out k hk; omega))
                  have OW8 := Lib.hid own8
                  clear own8 gr8 at8
                  obtain ⟨s0, s1, s2, sz⟩ := AT8.out.c3
                  refine hK.out _ _ ⟨KD8.out.1 1 _ rfl, KD8.out.1 2 _ rfl, KD8.out.1 3 _ rfl, KD8.out.1 4 _ rfl, AT8.out.1 0 _ rfl⟩ (fun hHeld8 => ?_)
                  clear hK K
                  (refine wpAnyH_take (i := 22) (v := ?_) rfl (by kernel_rfl) (by kernel_rfl) (by kernel_rfl) (fun _ _ _ h => h) (Or.inl ⟨by rfl, ?_⟩) hHeld8 ?_; rotate_left 1; focus (intro w hSw; (try dsimp only at hSw); go_simp; try with_reducible rfl)); (try simp only [Act.put, List.setIfInBounds_toArray, List.set_cons_zero, List.set_cons_succ])
                  refine wpAnyH_ready (rs := [23]) (by kernel_rfl) (by simp) ?_
                  refine AllReadyH.cons rfl (fun K hK => ?_) AllReadyH.nil
                  go_simp
                  refine hK.out _ _ ⟨(KD8.out.other (by omega) 2 _).1 1 _ rfl, (KD8.out.other (by omega) 2 _).1 2 _ rfl, (KD8.out.other (by omega) 2 _).1 3 _ rfl, (KD8.out.other (by omega) 2 _).1 4 _ rfl, (AT8.out.put (j := 2) (by simp) _ rfl).1 0 _ rfl⟩ (fun _ => ?_)
                  clear hK K
                  refine wpAnyH_done (by kernel_rfl) ?_ _
                  go_wp2_with fail
                  go_roundw
                  case rel => exact ⟨k + 1, _, by go_num, by omega, by omega, by rw [HSN.out]; exact OW8.out.kept (grownBy_set w8 ⟨T, 2, none⟩ _) (fun k hk => ⟨fun e => (by have h1 := OW8.out.row_ge e; injection hk with hk; dsimp only at hk; omega), id⟩), AT8.out.put (by simp) _ rfl, BE8.out.setCell (p := ⟨T, 2, none⟩) (Nat.le_refl _) _⟩
                  case measure => simp [intOf]; omega
      · have HYE := Lib.hid (show someNote L ⟨xk, xi, xt, xw, xa, xc, xd⟩ = (⟨2, 1 + q1, 0, 0, 0, q5, xd⟩ : Note) by unfold someNote; dsimp only; rw [← HQ0.out, if_neg hk0, ← HQ1.out, ← HQ5.out])
        rw [HYE.out] at HPW HSN
        have hkb : (q0 == 0) = false := by simpa using hk0
        clear hk0
        go_upto_region 8 with (first
          | (go_at_call 17; (with_reducible refine (mod_any xk 2 _ (by omega) (by omega)).mono ?_); rintro e w' ⟨rfl, rfl⟩; rw [← HQ0.out])
          | fail)
        rw [← HDD.out, ← HV.out]
        clear c0 c1 c3 c4 c5' c6 c7 k0 k1 k2 kz
        obtain ⟨d0, d1, d2, d3, d4, d5, d6, dz⟩ := KD.out.c7
        obtain ⟨t0, t1, t2, tz⟩ := ATV.out.c3
        have hA : ∀ o : Obj, (V.alloc o).cell? ⟨D, 1, none⟩ = some (.int .i64 xi) ∧ (V.alloc o).cell? ⟨D, 5, none⟩ = some (.int .i64 xc) ∧ (V.alloc o).cell? ⟨D, 6, none⟩ = some (.bool xd) := fun o => ⟨(KD.out.alloc o).1 1 _ rfl, (KD.out.alloc o).1 5 _ rfl, (KD.out.alloc o).1 6 _ rfl⟩
        have HSRC := Lib.hid (show Src noteRep (V.drew.alloc (.cells #[.int .i64 2, .int .i64 (1 + q1), .int .i64 0, .int .i64 0, .int .i64 0, .int .i64 q5, .bool xd] 27)) (fun _ => False) (some ⟨V.heap.size, 0, none⟩) 1 [(⟨2, 1 + q1, 0, 0, 0, q5, xd⟩ : Note)] from Src.new (R := noteRep) (w := V.drew) (e := 27) (S := fun _ => False) (a := (⟨2, 1 + q1, 0, 0, 0, q5, xd⟩ : Note)) (cs := (⟨2, 1 + q1, 0, 0, 0, q5, xd⟩ : Note).cells) ⟨rfl, HPW.out⟩)
        refine wp_region_held_drew (S := fun w' => w'.cell? ⟨D, 1, none⟩ = some (.int .i64 xi) ∧ w'.cell? ⟨D, 5, none⟩ = some (.int .i64 xc) ∧ w'.cell? ⟨D, 6, none⟩ = some (.bool xd)) (by kernel_rfl) (⟨d1, d5, d6⟩) (fun hHeld => ?_)
        (refine wpAnyH_take (i := 0) (v := ?_) rfl (by kernel_rfl) (by kernel_rfl) (by kernel_rfl) (fun _ _ _ h => h) (Or.inl ⟨by rfl, ?_⟩) hHeld ?_; rotate_left 1; focus (intro w hSw; (try dsimp only at hSw); go_simp; try with_reducible rfl)); (try simp only [Act.put, List.setIfInBounds_toArray, List.set_cons_zero, List.set_cons_succ])
        (refine wpAnyH_take (i := 2) (v := ?_) rfl (by kernel_rfl) (by kernel_rfl) (by kernel_rfl) (fun _ _ _ h => h) (Or.inl ⟨by rfl, ?_⟩) hHeld ?_; rotate_left 1; focus (intro w hSw; (try dsimp only at hSw); go_simp; try with_reducible rfl)); (try simp only [Act.put, List.setIfInBounds_toArray, List.set_cons_zero, List.set_cons_succ])
        (refine wpAnyH_take (i := 3) (v := ?_) rfl (by kernel_rfl) (by kernel_rfl) (by kernel_rfl) (fun _ _ _ h => h) (Or.inl ⟨by rfl, ?_⟩) hHeld ?_; rotate_left 1; focus (intro w hSw; (try dsimp only at hSw); go_simp; try with_reducible rfl)); (try simp only [Act.put, List.setIfInBounds_toArray, List.set_cons_zero, List.set_cons_succ])
        (refine wpAnyH_take (i := 6) (v := ?_) rfl (by kernel_rfl) (by kernel_rfl) (by kernel_rfl) (fun _ _ _ h => h) (Or.inl ⟨by rfl, ?_⟩) hHeld ?_; rotate_left 1; focus (intro w hSw; (try dsimp only at hSw); go_simp; try with_reducible rfl)); (try simp only [Act.put, List.setIfInBounds_toArray, List.set_cons_zero, List.set_cons_succ])
        (refine wpAnyH_take (i := 7) (v := ?_) rfl (by kernel_rfl) (by kernel_rfl) (by kernel_rfl) (fun _ _ _ h => h) (Or.inl ⟨by rfl, ?_⟩) hHeld ?_; rotate_left 1; focus (intro w hSw; (try dsimp only at hSw); go_simp; try with_reducible rfl)); (try simp only [Act.put, List.setIfInBounds_toArray, List.set_cons_zero, List.set_cons_succ])
        (refine wpAnyH_take (i := 9) (v := ?_) rfl (by kernel_rfl) (by kernel_rfl) (by kernel_rfl) (fun _ _ _ h => h) (Or.inl ⟨by rfl, ?_⟩) hHeld ?_; rotate_left 1; focus (intro w hSw; (try dsimp only at hSw); go_simp; try with_reducible rfl)); (try simp only [Act.put, List.setIfInBounds_toArray, List.set_cons_zero, List.set_cons_succ])
        (refine wpAnyH_take (i := 10) (v := ?_) rfl (by kernel_rfl) (by kernel_rfl) (by kernel_rfl) (fun _ _ _ h => h) (Or.inl ⟨by rfl, ?_⟩) hHeld ?_; rotate_left 1; focus (intro w hSw; (try dsimp only at hSw); go_simp; try with_reducible rfl)); (try simp only [Act.put, List.setIfInBounds_toArray, List.set_cons_zero, List.set_cons_succ])
        refine wpAnyH_ready (rs := [1, 4]) (by kernel_rfl) (by simp) ?_
        refine AllReadyH.cons rfl (fun K hK => ?_) (AllReadyH.cons rfl (fun K hK => ?_) AllReadyH.nil)
        · go_simp
          refine hK.out _ _ (hHeld) (fun _ => ?_)
          clear hK K
          refine wpAnyH_ready (rs := [4]) (by kernel_rfl) (by simp) ?_
          refine AllReadyH.cons rfl (fun K hK => ?_) AllReadyH.nil
          go_simp
          go_at_call 17; (with_reducible refine (mod_any xi 64 _ (by omega) (by omega)).mono ?_); rintro e w' ⟨rfl, rfl⟩; rw [← HQ1.out]
          refine hK.out _ _ (hHeld) (fun _ => ?_)
          clear hK K
          (refine wpAnyH_take (i := 5) (v := ?_) rfl (by kernel_rfl) (by kernel_rfl) (by kernel_rfl) (fun _ _ _ h => h) (Or.inl ⟨by rfl, ?_⟩) hHeld ?_; rotate_left 1; focus (intro w hSw; (try dsimp only at hSw); go_simp; try with_reducible rfl)); (try simp only [Act.put, List.setIfInBounds_toArray, List.set_cons_zero, List.set_cons_succ])
          refine wpAnyH_ready (rs := [8]) (by kernel_rfl) (by simp) ?_
          refine AllReadyH.cons rfl (fun K hK => ?_) AllReadyH.nil
          go_simp
          go_at_call 23; (with_reducible refine (big_any xc 1099511627777 _ (by omega) (by omega)).mono ?_); rintro e w' ⟨rfl, rfl⟩; rw [← HQ5.out]
          refine hK.out _ _ (hHeld) (fun _ => ?_)
          clear hK K
          (refine wpAnyH_take (i := 11) (v := ?_) rfl (by kernel_rfl) (by kernel_rfl) (by kernel_rfl) (fun _ _ _ h => h) (Or.inl ⟨by rfl, ?_⟩) hHeld ?_; rotate_left 1; focus (intro w hSw; (try dsimp only at hSw); go_simp; try with_reducible rfl)); (try simp only [Act.put, List.setIfInBounds_toArray, List.set_cons_zero, List.set_cons_succ])
          refine wpAnyH_ready (rs := [12]) (by kernel_rfl) (by simp) ?_
          refine AllReadyH.cons rfl (fun K hK => ?_) AllReadyH.nil
          go_simp
          refine hK.out _ _ (hA _) (fun hHeldA => ?_)
          clear hK K
          refine wpAnyH_ready (rs := [13]) (by kernel_rfl) (by simp) ?_
          refine AllReadyH.cons rfl (fun K hK => ?_) AllReadyH.nil
          refine step_append_Own (w := V.drew.alloc (.cells #[.int .i64 2, .int .i64 (1 + q1), .int .i64 0, .int .i64 0, .int .i64 0, .int .i64 q5, .bool xd] 27)) rfl (.tmp 55) (.tmp 66) 23 rfl (T + 1) 27 i0 _ 56 Try.underlying23 hi hz0 hz1 hz2 rfl (R := noteRep) (S := fun _ => False) (l := P) (l' := [(⟨2, 1 + q1, 0, 0, 0, q5, xd⟩ : Note)]) v3 rfl (OWD.out.alloc _) _ 1 1 rfl HSRC.out (by simp only [maxLen]; omega) (by omega) (by omega) (by simp; omega) ?_
          intro v8 w8 own8 gr8 at8
          obtain ⟨A8, c8, hv8, hlc8, hcm8, sl8⟩ := own8.isSlB
          obtain ⟨m8, hm8⟩ : ∃ m8, m8 = (P ++ [(⟨2, 1 + q1, 0, 0, 0, q5, xd⟩ : Note)]).length := ⟨_, rfl⟩
          rw [← hm8] at hv8
          subst hv8
          clear hm8 hlc8 hcm8 sl8
          have AT8 := Lib.hid ((ATD.out.alloc _).grown gr8 (fun k hk e => by have := HRT.out k hk; omega))
          have KD8 := Lib.hid ((KDD.out.alloc _).grown gr8 (fun k hk e => by have := HRD.out k hk; omega))
          have BE8 := Lib.hid ((BED.out.alloc (Nat.le_of_lt hTVd) _).grown gr8 (by simp; omega) (fun k hk => by have := HRT.out k hk; omega))
          have OW8 := Lib.hid own8
          clear own8 gr8 at8
          obtain ⟨s0, s1, s2, sz⟩ := AT8.out.c3
          refine hK.out _ _ ⟨KD8.out.1 1 _ rfl, KD8.out.1 5 _ rfl, KD8.out.1 6 _ rfl⟩ (fun hHeld8 => ?_)
          clear hK K
          (refine wpAnyH_take (i := 14) (v := ?_) rfl (by kernel_rfl) (by kernel_rfl) (by kernel_rfl) (fun _ _ _ h => h) (Or.inl ⟨by rfl, ?_⟩) hHeld8 ?_; rotate_left 1; focus (intro w hSw; (try dsimp only at hSw); go_simp; try with_reducible rfl)); (try simp only [Act.put, List.setIfInBounds_toArray, List.set_cons_zero, List.set_cons_succ])
          refine wpAnyH_ready (rs := [15]) (by kernel_rfl) (by simp) ?_
          refine AllReadyH.cons rfl (fun K hK => ?_) AllReadyH.nil
          go_simp
          refine hK.out _ _ ⟨(KD8.out.other (by omega) 2 _).1 1 _ rfl, (KD8.out.other (by omega) 2 _).1 5 _ rfl, (KD8.out.other (by omega) 2 _).1 6 _ rfl⟩ (fun _ => ?_)
          clear hK K
          refine wpAnyH_done (by kernel_rfl) ?_ _
          go_wp2_with fail
          go_roundw
          case rel => exact ⟨k + 1, _, by go_num, by omega, by omega, by rw [HSN.out]; exact OW8.out.kept (grownBy_set w8 ⟨T, 2, none⟩ _) (fun k hk => ⟨fun e => (by have h1 := OW8.out.row_ge e; injection hk with hk; dsimp only at hk; omega), id⟩), AT8.out.put (by simp) _ rfl, BE8.out.setCell (p := ⟨T, 2, none⟩) (Nat.le_refl _) _⟩
          case measure => simp [intOf]; omega
        · go_simp
          go_at_call 17; (with_reducible refine (mod_any xi 64 _ (by omega) (by omega)).mono ?_); rintro e w' ⟨rfl, rfl⟩; rw [← HQ1.out]
          refine hK.out _ _ (hHeld) (fun _ => ?_)
          clear hK K
          (refine wpAnyH_take (i := 5) (v := ?_) rfl (by kernel_rfl) (by kernel_rfl) (by kernel_rfl) (fun _ _ _ h => h) (Or.inl ⟨by rfl, ?_⟩) hHeld ?_; rotate_left 1; focus (intro w hSw; (try dsimp only at hSw); go_simp; try with_reducible rfl)); (try simp only [Act.put, List.setIfInBounds_toArray, List.set_cons_zero, List.set_cons_succ])
          refine wpAnyH_ready (rs := [1, 8]) (by kernel_rfl) (by simp) ?_
          refine AllReadyH.cons rfl (fun K hK => ?_) (AllReadyH.cons rfl (fun K hK => ?_) AllReadyH.nil)
          · go_simp
            refine hK.out _ _ (hHeld) (fun _ => ?_)
            clear hK K
            refine wpAnyH_ready (rs := [8]) (by kernel_rfl) (by simp) ?_
            refine AllReadyH.cons rfl (fun K hK => ?_) AllReadyH.nil
            go_simp
            go_at_call 23; (with_reducible refine (big_any xc 1099511627777 _ (by omega) (by omega)).mono ?_); rintro e w' ⟨rfl, rfl⟩; rw [← HQ5.out]
            refine hK.out _ _ (hHeld) (fun _ => ?_)
            clear hK K
            (refine wpAnyH_take (i := 11) (v := ?_) rfl (by kernel_rfl) (by kernel_rfl) (by kernel_rfl) (fun _ _ _ h => h) (Or.inl ⟨by rfl, ?_⟩) hHeld ?_; rotate_left 1; focus (intro w hSw; (try dsimp only at hSw); go_simp; try with_reducible rfl)); (try simp only [Act.put, List.setIfInBounds_toArray, List.set_cons_zero, List.set_cons_succ])
            refine wpAnyH_ready (rs := [12]) (by kernel_rfl) (by simp) ?_
            refine AllReadyH.cons rfl (fun K hK => ?_) AllReadyH.nil
            go_simp
            refine hK.out _ _ (hA _) (fun hHeldA => ?_)
            clear hK K
            refine wpAnyH_ready (rs := [13]) (by kernel_rfl) (by simp) ?_
            refine AllReadyH.cons rfl (fun K hK => ?_) AllReadyH.nil
            refine step_append_Own (w := V.drew.alloc (.cells #[.int .i64 2, .int .i64 (1 + q1), .int .i64 0, .int .i64 0, .int .i64 0, .int .i64 q5, .bool xd] 27)) rfl (.tmp 55) (.tmp 66) 23 rfl (T + 1) 27 i0 _ 56 Try.underlying23 hi hz0 hz1 hz2 rfl (R := noteRep) (S := fun _ => False) (l := P) (l' := [(⟨2, 1 + q1, 0, 0, 0, q5, xd⟩ : Note)]) v3 rfl (OWD.out.alloc _) _ 1 1 rfl HSRC.out (by simp only [maxLen]; omega) (by omega) (by omega) (by simp; omega) ?_
            intro v8 w8 own8 gr8 at8
            obtain ⟨A8, c8, hv8, hlc8, hcm8, sl8⟩ := own8.isSlB
            obtain ⟨m8, hm8⟩ : ∃ m8, m8 = (P ++ [(⟨2, 1 + q1, 0, 0, 0, q5, xd⟩ : Note)]).length := ⟨_, rfl⟩
            rw [← hm8] at hv8
            subst hv8
            clear hm8 hlc8 hcm8 sl8
            have AT8 := Lib.hid ((ATD.out.alloc _).grown gr8 (fun k hk e => by have := HRT.out k hk; omega))
            have KD8 := Lib.hid ((KDD.out.alloc _).grown gr8 (fun k hk e => by have := HRD.out k hk; omega))
            have BE8 := Lib.hid ((BED.out.alloc (Nat.le_of_lt hTVd) _).grown gr8 (by simp; omega) (fun k hk => by have := HRT.out k hk; omega))
            have OW8 := Lib.hid own8
            clear own8 gr8 at8
            obtain ⟨s0, s1, s2, sz⟩ := AT8.out.c3
            refine hK.out _ _ ⟨KD8.out.1 1 _ rfl, KD8.out.1 5 _ rfl, KD8.out.1 6 _ rfl⟩ (fun hHeld8 => ?_)
            clear hK K
            (refine wpAnyH_take (i := 14) (v := ?_) rfl (by kernel_rfl) (by kernel_rfl) (by kernel_rfl) (fun _ _ _ h => h) (Or.inl ⟨by rfl, ?_⟩) hHeld8 ?_; rotate_left 1; focus (intro w hSw; (try dsimp only at hSw); go_simp; try with_reducible rfl)); (try simp only [Act.put, List.setIfInBounds_toArray, List.set_cons_zero, List.set_cons_succ])
            refine wpAnyH_ready (rs := [15]) (by kernel_rfl) (by simp) ?_
            refine AllReadyH.cons rfl (fun K hK => ?_) AllReadyH.nil
            go_simp
            refine hK.out _ _ ⟨(KD8.out.other (by omega) 2 _).1 1 _ rfl, (KD8.out.other (by omega) 2 _).1 5 _ rfl, (KD8.out.other (by omega) 2 _).1 6 _ rfl⟩ (fun _ => ?_)
            clear hK K
            refine wpAnyH_done (by kernel_rfl) ?_ _
            go_wp2_with fail
            go_roundw
            case rel => exact ⟨k + 1, _, by go_num, by omega, by omega, by rw [HSN.out]; exact OW8.out.kept (grownBy_set w8 ⟨T, 2, none⟩ _) (fun k hk => ⟨fun e => (by have h1 := OW8.out.row_ge e; injection hk with hk; dsimp only at hk; omega), id⟩), AT8.out.put (by simp) _ rfl, BE8.out.setCell (p := ⟨T, 2, none⟩) (Nat.le_refl _) _⟩
            case measure => simp [intOf]; omega
          · go_simp
            go_at_call 23; (with_reducible refine (big_any xc 1099511627777 _ (by omega) (by omega)).mono ?_); rintro e w' ⟨rfl, rfl⟩; rw [← HQ5.out]
            refine hK.out _ _ (hHeld) (fun _ => ?_)
            clear hK K
            (refine wpAnyH_take (i := 11) (v := ?_) rfl (by kernel_rfl) (by kernel_rfl) (by kernel_rfl) (fun _ _ _ h => h) (Or.inl ⟨by rfl, ?_⟩) hHeld ?_; rotate_left 1; focus (intro w hSw; (try dsimp only at hSw); go_simp; try with_reducible rfl)); (try simp only [Act.put, List.setIfInBounds_toArray, List.set_cons_zero, List.set_cons_succ])
            refine wpAnyH_ready (rs := [1, 12]) (by kernel_rfl) (by simp) ?_
            refine AllReadyH.cons rfl (fun K hK => ?_) (AllReadyH.cons rfl (fun K hK => ?_) AllReadyH.nil)
            · go_simp
              refine hK.out _ _ (hHeld) (fun _ => ?_)
              clear hK K
              refine wpAnyH_ready (rs := [12]) (by kernel_rfl) (by simp) ?_
              refine AllReadyH.cons rfl (fun K hK => ?_) AllReadyH.nil
              go_simp
              refine hK.out _ _ (hA _) (fun hHeldA => ?_)
              clear hK K
              refine wpAnyH_ready (rs := [13]) (by kernel_rfl) (by simp) ?_
              refine AllReadyH.cons rfl (fun K hK => ?_) AllReadyH.nil
              refine step_append_Own (w := V.drew.alloc (.cells #[.int .i64 2, .int .i64 (1 + q1), .int .i64 0, .int .i64 0, .int .i64 0, .int .i64 q5, .bool xd] 27)) rfl (.tmp 55) (.tmp 66) 23 rfl (T + 1) 27 i0 _ 56 Try.underlying23 hi hz0 hz1 hz2 rfl (R := noteRep) (S := fun _ => False) (l := P) (l' := [(⟨2, 1 + q1, 0, 0, 0, q5, xd⟩ : Note)]) v3 rfl (OWD.out.alloc _) _ 1 1 rfl HSRC.out (by simp only [maxLen]; omega) (by omega) (by omega) (by simp; omega) ?_
              intro v8 w8 own8 gr8 at8
              obtain ⟨A8, c8, hv8, hlc8, hcm8, sl8⟩ := own8.isSlB
              obtain ⟨m8, hm8⟩ : ∃ m8, m8 = (P ++ [(⟨2, 1 + q1, 0, 0, 0, q5, xd⟩ : Note)]).length := ⟨_, rfl⟩
              rw [← hm8] at hv8
              subst hv8
              clear hm8 hlc8 hcm8 sl8
              have AT8 := Lib.hid ((ATD.out.alloc _).grown gr8 (fun k hk e => by have := HRT.out k hk; omega))
              have KD8 := Lib.hid ((KDD.out.alloc _).grown gr8 (fun k hk e => by have := HRD.out k hk; omega))
              have BE8 := Lib.hid ((BED.out.alloc (Nat.le_of_lt hTVd) _).grown gr8 (by simp; omega) (fun k hk => by have := HRT.out k hk; omega))
              have OW8 := Lib.hid own8
              clear own8 gr8 at8
              obtain ⟨s0, s1, s2, sz⟩ := AT8.out.c3
              refine hK.out _ _ ⟨KD8.out.1 1 _ rfl, KD8.out.1 5 _ rfl, KD8.out.1 6 _ rfl⟩ (fun hHeld8 => ?_)
              clear hK K
              (refine wpAnyH_take (i := 14) (v := ?_) rfl (by kernel_rfl) (by kernel_rfl) (by kernel_rfl) (fun _ _ _ h => h) (Or.inl ⟨by rfl, ?_⟩) hHeld8 ?_; rotate_left 1; focus (intro w hSw; (try dsimp only at hSw); go_simp; try with_reducible rfl)); (try simp only [Act.put, List.setIfInBounds_toArray, List.set_cons_zero, List.set_cons_succ])
              refine wpAnyH_ready (rs := [15]) (by kernel_rfl) (by simp) ?_
              refine AllReadyH.cons rfl (fun K hK => ?_) AllReadyH.nil
              go_simp
              refine hK.out _ _ ⟨(KD8.out.other (by omega) 2 _).1 1 _ rfl, (KD8.out.other (by omega) 2 _).1 5 _ rfl, (KD8.out.other (by omega) 2 _).1 6 _ rfl⟩ (fun _ => ?_)
              clear hK K
              refine wpAnyH_done (by kernel_rfl) ?_ _
              go_wp2_with fail
              go_roundw
              case rel => exact ⟨k + 1, _, by go_num, by omega, by omega, by rw [HSN.out]; exact OW8.out.kept (grownBy_set w8 ⟨T, 2, none⟩ _) (fun k hk => ⟨fun e => (by have h1 := OW8.out.row_ge e; injection hk with hk; dsimp only at hk; omega), id⟩), AT8.out.put (by simp) _ rfl, BE8.out.setCell (p := ⟨T, 2, none⟩) (Nat.le_refl _) _⟩
              case measure => simp [intOf]; omega
            · go_simp
              refine hK.out _ _ (hA _) (fun hHeldA => ?_)
              clear hK K
              refine wpAnyH_ready (rs := [1]) (by kernel_rfl) (by simp) ?_
              refine AllReadyH.cons rfl (fun K hK => ?_) AllReadyH.nil
              go_simp
              refine hK.out _ _ (hHeldA) (fun _ => ?_)
              clear hK K
              refine wpAnyH_ready (rs := [13]) (by kernel_rfl) (by simp) ?_
              refine AllReadyH.cons rfl (fun K hK => ?_) AllReadyH.nil
              refine step_append_Own (w := V.drew.alloc (.cells #[.int .i64 2, .int .i64 (1 + q1), .int .i64 0, .int .i64 0, .int .i64 0, .int .i64 q5, .bool xd] 27)) rfl (.tmp 55) (.tmp 66) 23 rfl (T + 1) 27 i0 _ 56 Try.underlying23 hi hz0 hz1 hz2 rfl (R := noteRep) (S := fun _ => False) (l := P) (l' := [(⟨2, 1 + q1, 0, 0, 0, q5, xd⟩ : Note)]) v3 rfl (OWD.out.alloc _) _ 1 1 rfl HSRC.out (by simp only [maxLen]; omega) (by omega) (by omega) (by simp; omega) ?_
              intro v8 w8 own8 gr8 at8
              obtain ⟨A8, c8, hv8, hlc8, hcm8, sl8⟩ := own8.isSlB
              obtain ⟨m8, hm8⟩ : ∃ m8, m8 = (P ++ [(⟨2, 1 + q1, 0, 0, 0, q5, xd⟩ : Note)]).length := ⟨_, rfl⟩
              rw [← hm8] at hv8
              subst hv8
              clear hm8 hlc8 hcm8 sl8
              have AT8 := Lib.hid ((ATD.out.alloc _).grown gr8 (fun k hk e => by have := HRT.out k hk; omega))
              have KD8 := Lib.hid ((KDD.out.alloc _).grown gr8 (fun k hk e => by have := HRD.out k hk; omega))
              have BE8 := Lib.hid ((BED.out.alloc (Nat.le_of_lt hTVd) _).grown gr8 (by simp; omega) (fun k hk => by have := HRT.out k hk; omega))
              have OW8 := Lib.hid own8
              clear own8 gr8 at8
              obtain ⟨s0, s1, s2, sz⟩ := AT8.out.c3
              refine hK.out _ _ ⟨KD8.out.1 1 _ rfl, KD8.out.1 5 _ rfl, KD8.out.1 6 _ rfl⟩ (fun hHeld8 => ?_)
              clear hK K
              (refine wpAnyH_take (i := 14) (v := ?_) rfl (by kernel_rfl) (by kernel_rfl) (by kernel_rfl) (fun _ _ _ h => h) (Or.inl ⟨by rfl, ?_⟩) hHeld8 ?_; rotate_left 1; focus (intro w hSw; (try dsimp only at hSw); go_simp; try with_reducible rfl)); (try simp only [Act.put, List.setIfInBounds_toArray, List.set_cons_zero, List.set_cons_succ])
              refine wpAnyH_ready (rs := [15]) (by kernel_rfl) (by simp) ?_
              refine AllReadyH.cons rfl (fun K hK => ?_) AllReadyH.nil
              go_simp
              refine hK.out _ _ ⟨(KD8.out.other (by omega) 2 _).1 1 _ rfl, (KD8.out.other (by omega) 2 _).1 5 _ rfl, (KD8.out.other (by omega) 2 _).1 6 _ rfl⟩ (fun _ => ?_)
              clear hK K
              refine wpAnyH_done (by kernel_rfl) ?_ _
              go_wp2_with fail
              go_roundw
              case rel => exact ⟨k + 1, _, by go_num, by omega, by omega, by rw [HSN.out]; exact OW8.out.kept (grownBy_set w8 ⟨T, 2, none⟩ _) (fun k hk => ⟨fun e => (by have h1 := OW8.out.row_ge e; injection hk with hk; dsimp only at hk; omega), id⟩), AT8.out.put (by simp) _ rfl, BE8.out.setCell (p := ⟨T, 2, none⟩) (Nat.le_refl _) _⟩
              case measure => simp [intOf]; omega
    · have hend : n2 ≤ k ∨ (k < n2 ∧ k = 4) := by omega
      have HE := Lib.hid (show P = (xn.take 4).map (someNote L) by
        rw [HP.out]
        rcases hend with h | ⟨_, h⟩
        · rw [List.take_of_length_le (by rw [← HL2.out]; exact h), List.take_of_length_le (by rw [← HL2.out]; omega)]
        · rw [h])
      obtain ⟨A7, c7, hv7, hlc7, hcm7, sl7⟩ := OW.out.isSlR
      subst hv7
      obtain ⟨m7, hm7⟩ : ∃ m7, m7 = P.length := ⟨_, rfl⟩
      rw [← hm7] at OW AT sl7 hlc7
      have SL7 := Lib.hid sl7
      obtain ⟨t0, t1, t2, tz⟩ := AT.out.c3
      obtain ⟨r0, r1, r2, rz⟩ := (R1.out.below BE.out (by omega)).c3
      have hRs := (R1.out.below BE.out (by omega)).lt
      have BEw := Lib.hid (Bw1.out.trans (BE.out.mono (by omega)))
      have SL8 := Lib.hid (SL6.out.keep (fun p hp => BE.out.cell (p := p) hp.2))
      clear hlt hm7 sl7
      have hd : decide ((k : Int) < (n2 : Int)) = false ∨ (decide ((k : Int) < (n2 : Int)) = true ∧ decide ((k : Int) < 4) = false) := by
        rcases hend with h | ⟨h1, h2⟩
        · left; exact decide_eq_false (by omega)
        · right; exact ⟨decide_eq_true (by omega), decide_eq_false (by omega)⟩
      clear hend
      have BET := Lib.hid (show Below W1.heap.size W1 wr by rw [← HT.out]; exact BE.out)
      have HOT := Lib.hid (show ∀ q, rowOf (.slice A5 m5 c5) = some q → q < T from fun q h => by rw [HT.out]; exact OO.out.row_lt h)
      have HNT := Lib.hid (show ∀ q, rowOf (.slice A7 m7 c7) = some q → T + 1 ≤ q from fun q h => OW.out.row_ge h)
      have HOG := Lib.hid (show ∀ q, rowOf (.slice A5 m5 c5) = some q → w.heap.size + 1 < q from fun q h => Nat.lt_of_lt_of_le hs0 (OO.out.row_ge h))
      have HNG := Lib.hid (show ∀ q, rowOf (.slice A7 m7 c7) = some q → w.heap.size + 1 < q from fun q h => by have := OW.out.row_ge h; omega)
      rcases hd with hd | ⟨hd, hd2⟩
      all_goals
        have hdn := hd
        simp only [Int.ofNat_lt] at hdn
        go_wp2_with fail
        refine bodyPost_ret (by simp [results, Try.results16, go_sem, r0, r1, r2]; try rfl) rfl ?_
        rw [HSI.out, ← HE.out]
        exact ⟨A5, m5, c5, A7, m7, c7, rfl, (set3_keep SL8.out (by omega) _ _ _).weak (fun b hb => by simp; omega), hlc5, hcm5, (set3_keep SL7.out (by omega) _ _ _).weak (fun b hb => by simp; omega), hlc7, hcm7, set3_below BEw.out (by omega) _ _ _, (((((OO.out.below BET.out).mono (show w.heap.size ≤ W0.heap.size by omega)).kept (grownBy_set _ ⟨w.heap.size + 1, 0, none⟩ _) (fun k hk => ⟨fun e => (by have h1 := HOG.out k e; injection hk with hk; dsimp only at hk; omega), id⟩)).kept (grownBy_set _ ⟨w.heap.size + 1, 1, none⟩ _) (fun k hk => ⟨fun e => (by have h1 := HOG.out k e; injection hk with hk; dsimp only at hk; omega), id⟩)).kept (grownBy_set _ ⟨w.heap.size + 1, 2, none⟩ _) (fun k hk => ⟨fun e => (by have h1 := HOG.out k e; injection hk with hk; dsimp only at hk; omega), id⟩)), ((((OW.out.mono (show w.heap.size ≤ T + 1 by omega)).kept (grownBy_set _ ⟨w.heap.size + 1, 0, none⟩ _) (fun k hk => ⟨fun e => (by have h1 := HNG.out k e; injection hk with hk; dsimp only at hk; omega), id⟩)).kept (grownBy_set _ ⟨w.heap.size + 1, 1, none⟩ _) (fun k hk => ⟨fun e => (by have h1 := HNG.out k e; injection hk with hk; dsimp only at hk; omega), id⟩)).kept (grownBy_set _ ⟨w.heap.size + 1, 2, none⟩ _) (fun k hk => ⟨fun e => (by have h1 := HNG.out k e; injection hk with hk; dsimp only at hk; omega), id⟩)), fun q h1 h2 => by have h3 := HOT.out q h1; have h4 := HNT.out q h2; omega⟩

theorem some_any (x : Item) (A : Option Addr) (n c : Nat) (A2 : Option Addr) (n2 c2 : Nat) (lsn : Int) (w : World) (h : IsSl oprRep w (· < w.heap.size) A n x.ops) (h2 : IsSl noteRep w (· < w.heap.size) A2 n2 x.notes) (hl : 0 ≤ lsn) (hl2 : lsn ≤ 1099511627770) :
    Calls Try.prog 16 #[.agg #[.int .i64 x.lsn, .slice A n c, .slice A2 n2 c2], .int .i64 lsn] w fun e w' => SomeRes (someI lsn x) w e w' := by
  refine (some_own x A n c A2 n2 c2 lsn w h h2 hl hl2).mono ?_
  rintro e w' ⟨A3, n3, c3, A4, n4, c4, h1, h3, h4, h5, h6, h7, h8, h9, -, -, -⟩
  exact ⟨A3, n3, c3, A4, n4, c4, h1, h3, h4, h5, h6, h7, h8, h9⟩
end Go.Proofs.Ytcohheoahdbgmaa
