/- Contract: play.Config. Written by gen_cfg.py. -/
import Derived.Test.YthhpddiicnjmmaaPlay
import Derived.Test.YthhpddiicnjmmaaTypesC
import Derived.Test.YthhpddiicnjmmaaRegC
import Derived.Test.YthhpddiicnjmmaaBlk
import Derived.Deep.RegionHeld3
import Derived.Deep.Cut
set_option linter.unusedVariables false
set_option linter.unusedSimpArgs false
set_option maxRecDepth 100000
namespace Go.Proofs.Ythhpddiicnjmmaa
open Go.RowKit

def sizeN (k : Int) : Int := if k = 0 then 64 else if k = 1 then 128 else if k = 2 then 256 else 1024
def playCfg (c : Cfg) : Cfg :=
  ⟨1 + modOf c.tables 4, modOf c.late (2 ^ (1 + modOf c.tables 4).toNat), sizeN (modOf c.size 4), 1 + modOf c.queue 5, 1 + modOf c.chunk 4, 1 + modOf c.batch 4, 1 + modOf c.base 4, 1 + modOf c.base 4 + modOf c.cap 12, modOf c.jitter 4, 1 + modOf c.every 8⟩

theorem pow_small4 {k : Nat} (h : k ≤ 4) : 0 < (2 : Int) ^ k ∧ (2 : Int) ^ k ≤ 9223372036854775807 ∧ wrap64 ((2 : Int) ^ k) = 2 ^ k := by
  have hp : (2 : Nat) ^ k ≤ 2 ^ 4 := Nat.pow_le_pow_right (by omega) h
  have h0 := Nat.two_pow_pos k
  have e : ((2 ^ k : Nat) : Int) = (2 : Int) ^ k := by simp
  have e1 : 0 < (2 : Int) ^ k := by rw [← e]; omega
  have e2 : (2 : Int) ^ k ≤ 9223372036854775807 := by rw [← e]; omega
  exact ⟨e1, e2, IntWalk.wrap64_in _ ⟨by omega, by omega⟩⟩

set_option maxHeartbeats 16000000 in
theorem playConfig_any (c : Cfg) (w : World) :
    Calls Try.prog 24 #[.agg #[.int .i64 c.tables, .int .i64 c.late, .int .i64 c.size, .int .i64 c.queue, .int .i64 c.chunk, .int .i64 c.batch, .int .i64 c.base, .int .i64 c.cap, .int .i64 c.jitter, .int .i64 c.every]] w fun e w' => e = .returned (.agg #[.int .i64 (playCfg c).tables, .int .i64 (playCfg c).late, .int .i64 (playCfg c).size, .int .i64 (playCfg c).queue, .int .i64 (playCfg c).chunk, .int .i64 (playCfg c).batch, .int .i64 (playCfg c).base, .int .i64 (playCfg c).cap, .int .i64 (playCfg c).jitter, .int .i64 (playCfg c).every]) ∧ Below w.heap.size w w' := by
  obtain ⟨ctables, clate, csize, cqueue, cchunk, cbatch, cbase, ccap, cjitter, cevery⟩ := c
  dsimp only
  have h1 := modOf_range ctables 4 (by omega)
  have h2 := modOf_range csize 4 (by omega)
  have h3 := modOf_range cqueue 5 (by omega)
  have h4 := modOf_range cchunk 4 (by omega)
  have h5 := modOf_range cbatch 4 (by omega)
  have h6 := modOf_range cbase 4 (by omega)
  have h7 := modOf_range ccap 12 (by omega)
  have h8 := modOf_range cjitter 4 (by omega)
  have h9 := modOf_range cevery 8 (by omega)
  obtain ⟨CB, hCB⟩ : ∃ CB, CB = w.heap.size := ⟨_, rfl⟩
  obtain ⟨RB, hRB⟩ : ∃ RB, RB = w.heap.size + 1 := ⟨_, rfl⟩
  obtain ⟨W, hW⟩ : ∃ W, W = (w.alloc (.cells #[.int .i64 ctables, .int .i64 clate, .int .i64 csize, .int .i64 cqueue, .int .i64 cchunk, .int .i64 cbatch, .int .i64 cbase, .int .i64 ccap, .int .i64 cjitter, .int .i64 cevery] 49)).alloc (.cells #[.int .i64 0, .int .i64 0, .int .i64 0, .int .i64 0, .int .i64 0, .int .i64 0, .int .i64 0, .int .i64 0, .int .i64 0, .int .i64 0] 49) := ⟨_, rfl⟩
  have HW := Lib.hid hW
  have H1 := Lib.hid hCB
  have H2 := Lib.hid hRB
  have HB := Lib.hid (show Below w.heap.size w W by rw [hW]; exact ((Below.refl _ _).alloc (Nat.le_refl _) _).alloc (by simp) _)
  have BC := Lib.hid (show Blk W CB [.int .i64 ctables, .int .i64 clate, .int .i64 csize, .int .i64 cqueue, .int .i64 cchunk, .int .i64 cbatch, .int .i64 cbase, .int .i64 ccap, .int .i64 cjitter, .int .i64 cevery] by rw [hW, hCB]; exact (Blk.new rfl rfl).alloc _)
  have BR := Lib.hid (show Blk W RB [.int .i64 0, .int .i64 0, .int .i64 0, .int .i64 0, .int .i64 0, .int .i64 0, .int .i64 0, .int .i64 0, .int .i64 0, .int .i64 0] by rw [hW, hRB]; exact Blk.new rfl (by simp))
  have c0 := BC.out.1 0 _ rfl
  have c2 := BC.out.1 2 _ rfl
  have c3 := BC.out.1 3 _ rfl
  have c4 := BC.out.1 4 _ rfl
  have c5 := BC.out.1 5 _ rfl
  obtain ⟨k, hk⟩ := Int.eq_ofNat_of_zero_le (show 0 ≤ 1 + modOf ctables 4 by omega)
  have hk1 : 1 ≤ k := by omega
  have hk4 : k ≤ 4 := by omega
  have HK1 := Lib.hid hk
  have w1 : IntKind.i64.wrap (1 + modOf ctables 4) = (k : Int) := by rw [← hk]; exact IntWalk.i64_in _ (by omega)
  have HCW := Lib.hid (show CB < W.heap.size ∧ RB < W.heap.size ∧ CB ≠ RB from ⟨BC.out.lt, BR.out.lt, by omega⟩)
  clear hk
  have w3 : IntKind.i64.wrap (1 + modOf cqueue 5) = 1 + modOf cqueue 5 := IntWalk.i64_in _ (by omega)
  have w4 : IntKind.i64.wrap (1 + modOf cchunk 4) = 1 + modOf cchunk 4 := IntWalk.i64_in _ (by omega)
  have w5 : IntKind.i64.wrap (1 + modOf cbatch 4) = 1 + modOf cbatch 4 := IntWalk.i64_in _ (by omega)
  have HKP := Lib.hid (show ∀ o, (W.drew.alloc o).cell? ⟨CB, 0, none⟩ = some (.int .i64 ctables) ∧ (W.drew.alloc o).cell? ⟨CB, 2, none⟩ = some (.int .i64 csize) ∧ (W.drew.alloc o).cell? ⟨CB, 3, none⟩ = some (.int .i64 cqueue) ∧ (W.drew.alloc o).cell? ⟨CB, 4, none⟩ = some (.int .i64 cchunk) ∧ (W.drew.alloc o).cell? ⟨CB, 5, none⟩ = some (.int .i64 cbatch) from fun o => ⟨(((Below.refl W.drew.heap.size W.drew).alloc (Nat.le_refl _) o).cell (p := ⟨CB, 0, none⟩) BC.out.lt).trans c0, (((Below.refl W.drew.heap.size W.drew).alloc (Nat.le_refl _) o).cell (p := ⟨CB, 2, none⟩) BC.out.lt).trans c2, (((Below.refl W.drew.heap.size W.drew).alloc (Nat.le_refl _) o).cell (p := ⟨CB, 3, none⟩) BC.out.lt).trans c3, (((Below.refl W.drew.heap.size W.drew).alloc (Nat.le_refl _) o).cell (p := ⟨CB, 4, none⟩) BC.out.lt).trans c4, (((Below.refl W.drew.heap.size W.drew).alloc (Nat.le_refl _) o).cell (p := ⟨CB, 5, none⟩) BC.out.lt).trans c5⟩)
  have HKQ := Lib.hid (show ∀ o o', ((W.drew.alloc o).alloc o').cell? ⟨CB, 0, none⟩ = some (.int .i64 ctables) ∧ ((W.drew.alloc o).alloc o').cell? ⟨CB, 2, none⟩ = some (.int .i64 csize) ∧ ((W.drew.alloc o).alloc o').cell? ⟨CB, 3, none⟩ = some (.int .i64 cqueue) ∧ ((W.drew.alloc o).alloc o').cell? ⟨CB, 4, none⟩ = some (.int .i64 cchunk) ∧ ((W.drew.alloc o).alloc o').cell? ⟨CB, 5, none⟩ = some (.int .i64 cbatch) from fun o o' => ⟨((((Below.refl W.drew.heap.size W.drew).alloc (Nat.le_refl _) o).alloc (by simp) o').cell (p := ⟨CB, 0, none⟩) BC.out.lt).trans c0, ((((Below.refl W.drew.heap.size W.drew).alloc (Nat.le_refl _) o).alloc (by simp) o').cell (p := ⟨CB, 2, none⟩) BC.out.lt).trans c2, ((((Below.refl W.drew.heap.size W.drew).alloc (Nat.le_refl _) o).alloc (by simp) o').cell (p := ⟨CB, 3, none⟩) BC.out.lt).trans c3, ((((Below.refl W.drew.heap.size W.drew).alloc (Nat.le_refl _) o).alloc (by simp) o').cell (p := ⟨CB, 4, none⟩) BC.out.lt).trans c4, ((((Below.refl W.drew.heap.size W.drew).alloc (Nat.le_refl _) o).alloc (by simp) o').cell (p := ⟨CB, 5, none⟩) BC.out.lt).trans c5⟩)
  have HKA := Lib.hid (show ∀ o, (W.drew.alloc o).cell? ⟨CB, 0, none⟩ = some (.int .i64 ctables) ∧ (W.drew.alloc o).cell? ⟨CB, 2, none⟩ = some (.int .i64 csize) ∧ (W.drew.alloc o).cell? ⟨CB, 3, none⟩ = some (.int .i64 cqueue) ∧ (W.drew.alloc o).cell? ⟨CB, 4, none⟩ = some (.int .i64 cchunk) ∧ (W.drew.alloc o).cell? ⟨CB, 5, none⟩ = some (.int .i64 cbatch) from fun o => ⟨(HKP.out o).1, (HKP.out o).2.1, (HKP.out o).2.2.1, (HKP.out o).2.2.2.1, (HKP.out o).2.2.2.2⟩)
  have HKB := Lib.hid (show ∀ o o', ((W.drew.alloc o).alloc o').cell? ⟨CB, 0, none⟩ = some (.int .i64 ctables) ∧ ((W.drew.alloc o).alloc o').cell? ⟨CB, 2, none⟩ = some (.int .i64 csize) ∧ ((W.drew.alloc o).alloc o').cell? ⟨CB, 3, none⟩ = some (.int .i64 cqueue) ∧ ((W.drew.alloc o).alloc o').cell? ⟨CB, 4, none⟩ = some (.int .i64 cchunk) ∧ ((W.drew.alloc o).alloc o').cell? ⟨CB, 5, none⟩ = some (.int .i64 cbatch) from fun o o' => ⟨(HKQ.out o o').1, (HKQ.out o o').2.1, (HKQ.out o o').2.2.1, (HKQ.out o o').2.2.2.1, (HKQ.out o o').2.2.2.2⟩)
  clear hW hCB hRB
  obtain ⟨K, hK⟩ : ∃ K, K = modOf csize 4 := ⟨_, rfl⟩
  have hKK : K = 0 ∨ K = 1 ∨ K = 2 ∨ K = 3 := by omega
  have HMD := Lib.hid (show ∀ w, Calls Try.prog 19 #[.int .i64 csize, .int .i64 4] w fun e w' => e = .returned (.int .i64 K) ∧ w = w' from fun w => by rw [hK]; exact mod_any csize 4 w (by omega) (by omega))
  have HZ := Lib.hid (show (playCfg ⟨ctables, clate, csize, cqueue, cchunk, cbatch, cbase, ccap, cjitter, cevery⟩).size = sizeN K by rw [hK]; rfl)
  clear hK h2
  go_enter Try.func24, Try.ntmps24
  go_wp2_with fail
  rw [← HW.out, ← H2.out, ← H1.out]
  rcases hKK with rfl | rfl | rfl | rfl
  all_goals
    refine wp_region_held_drew (S := fun w' => w'.cell? ⟨CB, 0, none⟩ = some (.int .i64 ctables) ∧ w'.cell? ⟨CB, 2, none⟩ = some (.int .i64 csize) ∧ w'.cell? ⟨CB, 3, none⟩ = some (.int .i64 cqueue) ∧ w'.cell? ⟨CB, 4, none⟩ = some (.int .i64 cchunk) ∧ w'.cell? ⟨CB, 5, none⟩ = some (.int .i64 cbatch)) (by kernel_rfl) (⟨c0, c2, c3, c4, c5⟩) (fun hHeld => ?_)
    (refine wpAnyH_take (i := 0) (v := ?_) rfl (by kernel_rfl) (by kernel_rfl) (by kernel_rfl) (fun _ _ _ h => h) (Or.inl ⟨by rfl, ?_⟩) hHeld ?_; rotate_left 1; focus (intro w hSw; (try dsimp only at hSw); go_simp; try with_reducible rfl)); (try simp only [Act.put, List.getElem_toArray, List.getElem_cons_zero, List.getElem_cons_succ, List.setIfInBounds_toArray, List.set_cons_zero, List.set_cons_succ])
    (refine wpAnyH_take (i := 1) (v := ?_) rfl (by kernel_rfl) (by kernel_rfl) (by kernel_rfl) (fun _ _ _ h => h) (Or.inl ⟨by rfl, ?_⟩) hHeld ?_; rotate_left 1; focus (intro w hSw; (try dsimp only at hSw); go_simp; try with_reducible rfl)); (try simp only [Act.put, List.getElem_toArray, List.getElem_cons_zero, List.getElem_cons_succ, List.setIfInBounds_toArray, List.set_cons_zero, List.set_cons_succ])
    refine wpAnyH_call (i := 2) (v := .int .i64 (modOf ctables 4)) rfl (by kernel_rfl) (by kernel_rfl) (by kernel_rfl) (fun _ _ _ h => h) ⟨by rfl, 19, #[.int .i64 ctables, .int .i64 4], fun w hSw => ⟨by (go_simp; try with_reducible rfl), mod_any ctables 4 w (by omega) (by omega)⟩⟩ hHeld ?_; (try simp only [Act.put, List.getElem_toArray, List.getElem_cons_zero, List.getElem_cons_succ, List.setIfInBounds_toArray, List.set_cons_zero, List.set_cons_succ])
    (refine wpAnyH_take (i := 3) (v := ?_) rfl (by kernel_rfl) (by kernel_rfl) (by kernel_rfl) (fun _ _ _ h => h) (Or.inl ⟨by rfl, ?_⟩) hHeld ?_; rotate_left 1; focus (intro w hSw; (try dsimp only at hSw); go_simp; try with_reducible rfl)); (try simp only [Act.put, List.getElem_toArray, List.getElem_cons_zero, List.getElem_cons_succ, List.setIfInBounds_toArray, List.set_cons_zero, List.set_cons_succ])
    (refine wpAnyH_take (i := 5) (v := ?_) rfl (by kernel_rfl) (by kernel_rfl) (by kernel_rfl) (fun _ _ _ h => h) (Or.inl ⟨by rfl, ?_⟩) hHeld ?_; rotate_left 1; focus (intro w hSw; (try dsimp only at hSw); go_simp; try with_reducible rfl)); (try simp only [Act.put, List.getElem_toArray, List.getElem_cons_zero, List.getElem_cons_succ, List.setIfInBounds_toArray, List.set_cons_zero, List.set_cons_succ])
    (refine wpAnyH_take (i := 6) (v := ?_) rfl (by kernel_rfl) (by kernel_rfl) (by kernel_rfl) (fun _ _ _ h => h) (Or.inl ⟨by rfl, ?_⟩) hHeld ?_; rotate_left 1; focus (intro w hSw; (try dsimp only at hSw); go_simp; try with_reducible rfl)); (try simp only [Act.put, List.getElem_toArray, List.getElem_cons_zero, List.getElem_cons_succ, List.setIfInBounds_toArray, List.set_cons_zero, List.set_cons_succ])
    refine wpAnyH_call (i := 7) (v := .int .i64 _) rfl (by kernel_rfl) (by kernel_rfl) (by kernel_rfl) (fun _ _ _ h => h) ⟨by rfl, 19, #[.int .i64 csize, .int .i64 4], fun w hSw => ⟨by (go_simp; try with_reducible rfl), HMD.out w⟩⟩ hHeld ?_; (try simp only [Act.put, List.getElem_toArray, List.getElem_cons_zero, List.getElem_cons_succ, List.setIfInBounds_toArray, List.set_cons_zero, List.set_cons_succ])
    (refine wpAnyH_take (i := 10) (v := ?_) rfl (by kernel_rfl) (by kernel_rfl) (by kernel_rfl) (fun _ _ _ h => h) (Or.inl ⟨by rfl, ?_⟩) hHeld ?_; rotate_left 1; focus (intro w hSw; (try dsimp only at hSw); go_simp; try with_reducible rfl)); (try simp only [Act.put, List.getElem_toArray, List.getElem_cons_zero, List.getElem_cons_succ, List.setIfInBounds_toArray, List.set_cons_zero, List.set_cons_succ])
    (refine wpAnyH_take (i := 11) (v := ?_) rfl (by kernel_rfl) (by kernel_rfl) (by kernel_rfl) (fun _ _ _ h => h) (Or.inl ⟨by rfl, ?_⟩) hHeld ?_; rotate_left 1; focus (intro w hSw; (try dsimp only at hSw); go_simp; try with_reducible rfl)); (try simp only [Act.put, List.getElem_toArray, List.getElem_cons_zero, List.getElem_cons_succ, List.setIfInBounds_toArray, List.set_cons_zero, List.set_cons_succ])
    refine wpAnyH_call (i := 12) (v := .int .i64 (modOf cqueue 5)) rfl (by kernel_rfl) (by kernel_rfl) (by kernel_rfl) (fun _ _ _ h => h) ⟨by rfl, 19, #[.int .i64 cqueue, .int .i64 5], fun w hSw => ⟨by (go_simp; try with_reducible rfl), mod_any cqueue 5 w (by omega) (by omega)⟩⟩ hHeld ?_; (try simp only [Act.put, List.getElem_toArray, List.getElem_cons_zero, List.getElem_cons_succ, List.setIfInBounds_toArray, List.set_cons_zero, List.set_cons_succ])
    (refine wpAnyH_take (i := 13) (v := ?_) rfl (by kernel_rfl) (by kernel_rfl) (by kernel_rfl) (fun _ _ _ h => h) (Or.inl ⟨by rfl, ?_⟩) hHeld ?_; rotate_left 1; focus (intro w hSw; (try dsimp only at hSw); go_simp; try with_reducible rfl)); (try simp only [Act.put, List.getElem_toArray, List.getElem_cons_zero, List.getElem_cons_succ, List.setIfInBounds_toArray, List.set_cons_zero, List.set_cons_succ])
    (refine wpAnyH_take (i := 14) (v := ?_) rfl (by kernel_rfl) (by kernel_rfl) (by kernel_rfl) (fun _ _ _ h => h) (Or.inl ⟨by rfl, ?_⟩) hHeld ?_; rotate_left 1; focus (intro w hSw; (try dsimp only at hSw); go_simp; try with_reducible rfl)); (try simp only [Act.put, List.getElem_toArray, List.getElem_cons_zero, List.getElem_cons_succ, List.setIfInBounds_toArray, List.set_cons_zero, List.set_cons_succ])
    (refine wpAnyH_take (i := 15) (v := ?_) rfl (by kernel_rfl) (by kernel_rfl) (by kernel_rfl) (fun _ _ _ h => h) (Or.inl ⟨by rfl, ?_⟩) hHeld ?_; rotate_left 1; focus (intro w hSw; (try dsimp only at hSw); go_simp; try with_reducible rfl)); (try simp only [Act.put, List.getElem_toArray, List.getElem_cons_zero, List.getElem_cons_succ, List.setIfInBounds_toArray, List.set_cons_zero, List.set_cons_succ])
    refine wpAnyH_call (i := 16) (v := .int .i64 (modOf cchunk 4)) rfl (by kernel_rfl) (by kernel_rfl) (by kernel_rfl) (fun _ _ _ h => h) ⟨by rfl, 19, #[.int .i64 cchunk, .int .i64 4], fun w hSw => ⟨by (go_simp; try with_reducible rfl), mod_any cchunk 4 w (by omega) (by omega)⟩⟩ hHeld ?_; (try simp only [Act.put, List.getElem_toArray, List.getElem_cons_zero, List.getElem_cons_succ, List.setIfInBounds_toArray, List.set_cons_zero, List.set_cons_succ])
    (refine wpAnyH_take (i := 17) (v := ?_) rfl (by kernel_rfl) (by kernel_rfl) (by kernel_rfl) (fun _ _ _ h => h) (Or.inl ⟨by rfl, ?_⟩) hHeld ?_; rotate_left 1; focus (intro w hSw; (try dsimp only at hSw); go_simp; try with_reducible rfl)); (try simp only [Act.put, List.getElem_toArray, List.getElem_cons_zero, List.getElem_cons_succ, List.setIfInBounds_toArray, List.set_cons_zero, List.set_cons_succ])
    (refine wpAnyH_take (i := 18) (v := ?_) rfl (by kernel_rfl) (by kernel_rfl) (by kernel_rfl) (fun _ _ _ h => h) (Or.inl ⟨by rfl, ?_⟩) hHeld ?_; rotate_left 1; focus (intro w hSw; (try dsimp only at hSw); go_simp; try with_reducible rfl)); (try simp only [Act.put, List.getElem_toArray, List.getElem_cons_zero, List.getElem_cons_succ, List.setIfInBounds_toArray, List.set_cons_zero, List.set_cons_succ])
    (refine wpAnyH_take (i := 19) (v := ?_) rfl (by kernel_rfl) (by kernel_rfl) (by kernel_rfl) (fun _ _ _ h => h) (Or.inl ⟨by rfl, ?_⟩) hHeld ?_; rotate_left 1; focus (intro w hSw; (try dsimp only at hSw); go_simp; try with_reducible rfl)); (try simp only [Act.put, List.getElem_toArray, List.getElem_cons_zero, List.getElem_cons_succ, List.setIfInBounds_toArray, List.set_cons_zero, List.set_cons_succ])
    refine wpAnyH_call (i := 20) (v := .int .i64 (modOf cbatch 4)) rfl (by kernel_rfl) (by kernel_rfl) (by kernel_rfl) (fun _ _ _ h => h) ⟨by rfl, 19, #[.int .i64 cbatch, .int .i64 4], fun w hSw => ⟨by (go_simp; try with_reducible rfl), mod_any cbatch 4 w (by omega) (by omega)⟩⟩ hHeld ?_; (try simp only [Act.put, List.getElem_toArray, List.getElem_cons_zero, List.getElem_cons_succ, List.setIfInBounds_toArray, List.set_cons_zero, List.set_cons_succ])
    (refine wpAnyH_take (i := 21) (v := ?_) rfl (by kernel_rfl) (by kernel_rfl) (by kernel_rfl) (fun _ _ _ h => h) (Or.inl ⟨by rfl, ?_⟩) hHeld ?_; rotate_left 1; focus (intro w hSw; (try dsimp only at hSw); go_simp; try with_reducible rfl)); (try simp only [Act.put, List.getElem_toArray, List.getElem_cons_zero, List.getElem_cons_succ, List.setIfInBounds_toArray, List.set_cons_zero, List.set_cons_succ])
    refine wpAnyH_ready (rs := [4, 23]) (by kernel_rfl) (by simp) ?_
    refine AllReadyH.cons rfl (fun K hK => ?_) (AllReadyH.cons rfl (fun K hK => ?_) AllReadyH.nil)
    · go_simp
      refine hK.out _ _ (by (first | exact HKA.out _ | exact HKB.out _ _ | exact hHeld)) (fun hHeld2 => ?_)
      clear hK K hHeld; have hHeld := hHeld2; clear hHeld2; (try simp only [Act.put, List.getElem_toArray, List.getElem_cons_zero, List.getElem_cons_succ, List.setIfInBounds_toArray, List.set_cons_zero, List.set_cons_succ])
      (refine wpAnyH_take (i := 8) (v := ?_) rfl (by kernel_rfl) (by kernel_rfl) (by kernel_rfl) (fun _ _ _ h => h) (Or.inl ⟨by rfl, ?_⟩) hHeld ?_; rotate_left 1; focus (intro w hSw; (try dsimp only at hSw); go_simp; try with_reducible rfl)); (try simp only [Act.put, List.getElem_toArray, List.getElem_cons_zero, List.getElem_cons_succ, List.setIfInBounds_toArray, List.set_cons_zero, List.set_cons_succ])
      refine wpAnyH_ready (rs := [9, 23]) (by kernel_rfl) (by simp) ?_
      refine AllReadyH.cons rfl (fun K hK => ?_) (AllReadyH.cons rfl (fun K hK => ?_) AllReadyH.nil)
      · go_simp
        refine hK.out _ _ (by (first | exact HKA.out _ | exact HKB.out _ _ | exact hHeld)) (fun hHeld2 => ?_)
        clear hK K hHeld; have hHeld := hHeld2; clear hHeld2; (try simp only [Act.put, List.getElem_toArray, List.getElem_cons_zero, List.getElem_cons_succ, List.setIfInBounds_toArray, List.set_cons_zero, List.set_cons_succ])
        (refine wpAnyH_take (i := 22) (v := ?_) rfl (by kernel_rfl) (by kernel_rfl) (by kernel_rfl) (fun _ _ _ h => h) (Or.inl ⟨by rfl, ?_⟩) hHeld ?_; rotate_left 1; focus (intro w hSw; (try dsimp only at hSw); go_simp; try with_reducible rfl)); (try simp only [Act.put, List.getElem_toArray, List.getElem_cons_zero, List.getElem_cons_succ, List.setIfInBounds_toArray, List.set_cons_zero, List.set_cons_succ])
        refine wpAnyH_ready (rs := [23]) (by kernel_rfl) (by simp) ?_
        refine AllReadyH.cons rfl (fun K hK => ?_) AllReadyH.nil
        go_simp
        refine hK.out _ _ (by (first | exact HKA.out _ | exact HKB.out _ _ | exact hHeld)) (fun hHeld2 => ?_)
        clear hK K hHeld; have hHeld := hHeld2; clear hHeld2; (try simp only [Act.put, List.getElem_toArray, List.getElem_cons_zero, List.getElem_cons_succ, List.setIfInBounds_toArray, List.set_cons_zero, List.set_cons_succ])
        refine wpAnyH_ready (rs := [24]) (by kernel_rfl) (by simp) ?_
        refine AllReadyH.cons rfl (fun K hK => ?_) AllReadyH.nil
        go_simp
        refine hK.out _ _ (by (first | exact HKA.out _ | exact HKB.out _ _ | exact hHeld)) (fun hHeld2 => ?_)
        clear hK K hHeld; have hHeld := hHeld2; clear hHeld2; (try simp only [Act.put, List.getElem_toArray, List.getElem_cons_zero, List.getElem_cons_succ, List.setIfInBounds_toArray, List.set_cons_zero, List.set_cons_succ])
        refine wpAnyH_done (by kernel_rfl) ?_ _
        obtain ⟨XB, hXB⟩ : ∃ XB, XB = W.heap.size + 1 := ⟨_, rfl⟩
        generalize hw3 : World.drew (World.alloc (World.alloc W _) _) = w3
        have B3 := Lib.hid (show Below W.heap.size W w3 by rw [← hw3]; exact below_of_drew0 (((Below.refl _ _).alloc (Nat.le_refl _) _).alloc (by simp) _))
        obtain ⟨Z, bx, hZ⟩ : ∃ Z, Blk w3 XB [.int .i64 (k : Int), .int .i64 0, .int .i64 Z, .int .i64 (1 + modOf cqueue 5), .int .i64 (1 + modOf cchunk 4), .int .i64 (1 + modOf cbatch 4), .int .i64 0, .int .i64 0, .int .i64 0, .int .i64 0] ∧ (playCfg ⟨ctables, clate, csize, cqueue, cchunk, cbatch, cbase, ccap, cjitter, cevery⟩).size = Z := ⟨_, (by rw [← hw3, hXB]; exact (Blk.new rfl (by simp)).drew), HZ.out⟩
        have BX3 := Lib.hid bx
        have HXG := Lib.hid (show W.heap.size ≤ XB by rw [hXB]; omega)
        have HZZ := Lib.hid hZ
        have BC3 := Lib.hid (BC.out.after B3.out)
        have BR3 := Lib.hid (BR.out.after B3.out)
        have nCXn : CB ≠ XB := by have := HCW.out.1; have := HXG.out; omega
        have nRXn : RB ≠ XB := by have := HCW.out.2.1; have := HXG.out; omega
        have nCX : (CB = XB) = False := by simp; have := HCW.out.1; omega
        have nXC : (XB = CB) = False := by simp; have := HCW.out.1; omega
        have nRX : (RB = XB) = False := by simp; have := HCW.out.2.1; omega
        have nXR : (XB = RB) = False := by simp; have := HCW.out.2.1; omega
        rw [← hXB]
        clear hXB hw3 bx hZ c0 c2 c3 c4 c5 hHeld
        have c1 := BC3.out.1 1 _ rfl
        have c6 := BC3.out.1 6 _ rfl
        have x0 := BX3.out.1 0 _ rfl
        have x1 := BX3.out.1 1 _ rfl
        have x6 := BX3.out.1 6 _ rfl
        have xz := BX3.out.2.1
        have hpw := (pow_small4 hk4).2.2
        go_wp2_with (first
          | (go_at_call 19; (with_reducible refine (mod_any clate (2 ^ k) _ (pow_small4 hk4).1 (pow_small4 hk4).2.1).mono ?_); rintro e w' ⟨rfl, rfl⟩)
          | (go_at_call 17; (with_reducible refine (big_any cbase 4 _ (by omega) (by omega)).mono ?_); rintro e w' ⟨rfl, rfl⟩)
          | fail)
        generalize hw4 : World.setCell (World.setCell w3 _ _) _ _ = w4
        have hXW := (show W.heap.size ≤ XB from HXG.out)
        have BX4 := Lib.hid (show Blk w4 XB [.int .i64 (k : Int), .int .i64 (modOf clate (2 ^ k)), .int .i64 Z, .int .i64 (1 + modOf cqueue 5), .int .i64 (1 + modOf cchunk 4), .int .i64 (1 + modOf cbatch 4), .int .i64 (1 + modOf cbase 4), .int .i64 0, .int .i64 0, .int .i64 0] by rw [← hw4]; exact (BX3.out.put (j := 1) (by simp) _ rfl).put (j := 6) (by simp) _ rfl)
        have BC4 := Lib.hid (show Blk w4 CB [.int .i64 ctables, .int .i64 clate, .int .i64 csize, .int .i64 cqueue, .int .i64 cchunk, .int .i64 cbatch, .int .i64 cbase, .int .i64 ccap, .int .i64 cjitter, .int .i64 cevery] by rw [← hw4]; exact (BC3.out.other nCXn _ _).other nCXn _ _)
        have BR4 := Lib.hid (show Blk w4 RB [.int .i64 0, .int .i64 0, .int .i64 0, .int .i64 0, .int .i64 0, .int .i64 0, .int .i64 0, .int .i64 0, .int .i64 0, .int .i64 0] by rw [← hw4]; exact (BR3.out.other nRXn _ _).other nRXn _ _)
        have B4 := Lib.hid (show Below W.heap.size W w4 by rw [← hw4]; exact (B3.out.setCell hXW _).setCell hXW _)
        have w7 : IntKind.i64.wrap (1 + modOf cbase 4 + modOf ccap 12) = 1 + modOf cbase 4 + modOf ccap 12 := IntWalk.i64_in _ (by omega)
        have HKK := Lib.hid (show ∀ v, (w4.setCell ⟨XB, 7, none⟩ v).cell? ⟨CB, 7, none⟩ = some (.int .i64 ccap) ∧ (w4.setCell ⟨XB, 7, none⟩ v).cell? ⟨XB, 6, none⟩ = some (.int .i64 (1 + modOf cbase 4)) from fun v => ⟨(BC4.out.other nCXn 7 v).1 7 _ rfl, (BX4.out.put (j := 7) (by simp) v rfl).1 6 _ rfl⟩)
        clear hw4 c1 c6 x0 x1 x6 xz
        have xz := BX4.out.2.1
        have c7 := BC4.out.1 7 _ rfl
        have x6 := BX4.out.1 6 _ rfl
        have x7 := BX4.out.1 7 _ rfl
        refine wp_region_held_drew (S := fun w' => w'.cell? ⟨CB, 7, none⟩ = some (.int .i64 ccap) ∧ w'.cell? ⟨XB, 6, none⟩ = some (.int .i64 (1 + modOf cbase 4))) (by kernel_rfl) (⟨c7, x6⟩) (fun hHeld => ?_)
        (refine wpAnyH_take (i := 0) (v := ?_) rfl (by kernel_rfl) (by kernel_rfl) (by kernel_rfl) (fun _ _ _ h => h) (Or.inl ⟨by rfl, ?_⟩) hHeld ?_; rotate_left 1; focus (intro w hSw; (try dsimp only at hSw); go_simp; try with_reducible rfl)); (try simp only [Act.put, List.getElem_toArray, List.getElem_cons_zero, List.getElem_cons_succ, List.setIfInBounds_toArray, List.set_cons_zero, List.set_cons_succ])
        (refine wpAnyH_take (i := 1) (v := ?_) rfl (by kernel_rfl) (by kernel_rfl) (by kernel_rfl) (fun _ _ _ h => h) (Or.inl ⟨by rfl, ?_⟩) hHeld ?_; rotate_left 1; focus (intro w hSw; (try dsimp only at hSw); go_simp; try with_reducible rfl)); (try simp only [Act.put, List.getElem_toArray, List.getElem_cons_zero, List.getElem_cons_succ, List.setIfInBounds_toArray, List.set_cons_zero, List.set_cons_succ])
        (refine wpAnyH_take (i := 2) (v := ?_) rfl (by kernel_rfl) (by kernel_rfl) (by kernel_rfl) (fun _ _ _ h => h) (Or.inl ⟨by rfl, ?_⟩) hHeld ?_; rotate_left 1; focus (intro w hSw; (try dsimp only at hSw); go_simp; try with_reducible rfl)); (try simp only [Act.put, List.getElem_toArray, List.getElem_cons_zero, List.getElem_cons_succ, List.setIfInBounds_toArray, List.set_cons_zero, List.set_cons_succ])
        (refine wpAnyH_take (i := 3) (v := ?_) rfl (by kernel_rfl) (by kernel_rfl) (by kernel_rfl) (fun _ _ _ h => h) (Or.inl ⟨by rfl, ?_⟩) hHeld ?_; rotate_left 1; focus (intro w hSw; (try dsimp only at hSw); go_simp; try with_reducible rfl)); (try simp only [Act.put, List.getElem_toArray, List.getElem_cons_zero, List.getElem_cons_succ, List.setIfInBounds_toArray, List.set_cons_zero, List.set_cons_succ])
        refine wpAnyH_call (i := 4) (v := .int .i64 (modOf ccap 12)) rfl (by kernel_rfl) (by kernel_rfl) (by kernel_rfl) (fun _ _ _ h => h) ⟨by rfl, 17, #[.int .i64 ccap, .int .i64 12], fun w hSw => ⟨by (go_simp; try with_reducible rfl), big_any ccap 12 w (by omega) (by omega)⟩⟩ hHeld ?_; (try simp only [Act.put, List.getElem_toArray, List.getElem_cons_zero, List.getElem_cons_succ, List.setIfInBounds_toArray, List.set_cons_zero, List.set_cons_succ])
        (refine wpAnyH_take (i := 5) (v := ?_) rfl (by kernel_rfl) (by kernel_rfl) (by kernel_rfl) (fun _ _ _ h => h) (Or.inl ⟨by rfl, ?_⟩) hHeld ?_; rotate_left 1; focus (intro w hSw; (try dsimp only at hSw); go_simp; try with_reducible rfl)); (try simp only [Act.put, List.getElem_toArray, List.getElem_cons_zero, List.getElem_cons_succ, List.setIfInBounds_toArray, List.set_cons_zero, List.set_cons_succ])
        (refine wpAnyH_take (i := 6) (v := ?_) rfl (by kernel_rfl) (by kernel_rfl) (by kernel_rfl) (fun _ _ _ h => h) (Or.inl ⟨by rfl, ?_⟩) hHeld ?_; rotate_left 1; focus (intro w hSw; (try dsimp only at hSw); go_simp; try with_reducible rfl)); (try simp only [Act.put, List.getElem_toArray, List.getElem_cons_zero, List.getElem_cons_succ, List.setIfInBounds_toArray, List.set_cons_zero, List.set_cons_succ])
        refine wpAnyH_ready (rs := [7]) (by kernel_rfl) (by simp) ?_
        refine AllReadyH.cons rfl (fun K hK => ?_) AllReadyH.nil
        go_simp
        refine hK.out _ _ (by exact HKK.out _) (fun hHeld2 => ?_)
        clear hK K hHeld; have hHeld := hHeld2; clear hHeld2; (try simp only [Act.put, List.getElem_toArray, List.getElem_cons_zero, List.getElem_cons_succ, List.setIfInBounds_toArray, List.set_cons_zero, List.set_cons_succ])
        refine wpAnyH_done (by kernel_rfl) ?_ _
        generalize hw5 : World.drew (World.setCell w4 _ _) = w5
        have BX5 := Lib.hid (show Blk w5 XB [.int .i64 (k : Int), .int .i64 (modOf clate (2 ^ k)), .int .i64 Z, .int .i64 (1 + modOf cqueue 5), .int .i64 (1 + modOf cchunk 4), .int .i64 (1 + modOf cbatch 4), .int .i64 (1 + modOf cbase 4), .int .i64 (1 + modOf cbase 4 + modOf ccap 12), .int .i64 0, .int .i64 0] by rw [← hw5]; exact (BX4.out.put (j := 7) (by simp) _ rfl).drew)
        have BC5 := Lib.hid (show Blk w5 CB [.int .i64 ctables, .int .i64 clate, .int .i64 csize, .int .i64 cqueue, .int .i64 cchunk, .int .i64 cbatch, .int .i64 cbase, .int .i64 ccap, .int .i64 cjitter, .int .i64 cevery] by rw [← hw5]; exact (BC4.out.other nCXn _ _).drew)
        have BR5 := Lib.hid (show Blk w5 RB [.int .i64 0, .int .i64 0, .int .i64 0, .int .i64 0, .int .i64 0, .int .i64 0, .int .i64 0, .int .i64 0, .int .i64 0, .int .i64 0] by rw [← hw5]; exact (BR4.out.other nRXn _ _).drew)
        have B5 := Lib.hid (show Below W.heap.size W w5 by rw [← hw5]; exact below_of_drew0 (B4.out.setCell hXW _))
        clear hw5 c7 x6 x7 xz w7 HKK hHeld
        have c8 := BC5.out.1 8 _ rfl
        have c9 := BC5.out.1 9 _ rfl
        have xz := BX5.out.2.1
        have rz := BR5.out.2.1
        have x0 := BX5.out.1 0 _ rfl
        have x1 := BX5.out.1 1 _ rfl
        have x2 := BX5.out.1 2 _ rfl
        have x3 := BX5.out.1 3 _ rfl
        have x4 := BX5.out.1 4 _ rfl
        have x5 := BX5.out.1 5 _ rfl
        have x6 := BX5.out.1 6 _ rfl
        have x7 := BX5.out.1 7 _ rfl
        have x8 := BX5.out.1 8 _ rfl
        have x9 := BX5.out.1 9 _ rfl
        have r0 := BR5.out.1 0 _ rfl
        have r1 := BR5.out.1 1 _ rfl
        have r2 := BR5.out.1 2 _ rfl
        have r3 := BR5.out.1 3 _ rfl
        have r4 := BR5.out.1 4 _ rfl
        have r5 := BR5.out.1 5 _ rfl
        have r6 := BR5.out.1 6 _ rfl
        have r7 := BR5.out.1 7 _ rfl
        have r8 := BR5.out.1 8 _ rfl
        have r9 := BR5.out.1 9 _ rfl
        go_wp2_with (first
          | (go_at_call 17; (with_reducible refine (big_any cjitter 4 _ (by omega) (by omega)).mono ?_); rintro e w' ⟨rfl, rfl⟩)
          | (go_at_call 17; (with_reducible refine (big_any cevery 8 _ (by omega) (by omega)).mono ?_); rintro e w' ⟨rfl, rfl⟩)
          | fail)
        generalize hw9 : World.setCell _ ⟨RB, 9, none⟩ _ = w9
        have hWR := (show w.heap.size ≤ RB by have := H2.out; omega)
        have hWX := (show w.heap.size ≤ XB from Nat.le_trans HB.out.size hXW)
        have BR9 := Lib.hid (show Blk w9 RB [.int .i64 (k : Int), .int .i64 (modOf clate (2 ^ k)), .int .i64 Z, .int .i64 (1 + modOf cqueue 5), .int .i64 (1 + modOf cchunk 4), .int .i64 (1 + modOf cbatch 4), .int .i64 (1 + modOf cbase 4), .int .i64 (1 + modOf cbase 4 + modOf ccap 12), .int .i64 (modOf cjitter 4), .int .i64 (1 + modOf cevery 8)] by rw [← hw9]; exact ((((((((((((BR5.out.other nRXn 8 _).other nRXn 9 _).put (j := 0) (by simp) _ rfl).put (j := 1) (by simp) _ rfl).put (j := 2) (by simp) _ rfl).put (j := 3) (by simp) _ rfl).put (j := 4) (by simp) _ rfl).put (j := 5) (by simp) _ rfl).put (j := 6) (by simp) _ rfl).put (j := 7) (by simp) _ rfl).put (j := 8) (by simp) _ rfl).put (j := 9) (by simp) _ rfl))
        have B9 := Lib.hid (show Below w.heap.size w w9 by rw [← hw9]; exact (((((((((((((HB.out.trans (B5.out.mono HB.out.size)).setCell hWX _).setCell hWX _).setCell hWR _).setCell hWR _).setCell hWR _).setCell hWR _).setCell hWR _).setCell hWR _).setCell hWR _).setCell hWR _).setCell hWR _).setCell hWR _))
        clear hw9 c8 c9 xz rz x0 x1 x2 x3 x4 x5 x6 x7 x8 x9 r0 r1 r2 r3 r4 r5 r6 r7 r8 r9
        have r0 := BR9.out.1 0 _ rfl
        have r1 := BR9.out.1 1 _ rfl
        have r2 := BR9.out.1 2 _ rfl
        have r3 := BR9.out.1 3 _ rfl
        have r4 := BR9.out.1 4 _ rfl
        have r5 := BR9.out.1 5 _ rfl
        have r6 := BR9.out.1 6 _ rfl
        have r7 := BR9.out.1 7 _ rfl
        have r8 := BR9.out.1 8 _ rfl
        have r9 := BR9.out.1 9 _ rfl
        refine bodyPost_ret (by simp [results, Try.results24, go_sem, r0, r1, r2, r3, r4, r5, r6, r7, r8, r9]; try rfl) rfl ?_
        refine ⟨?_, B9.out⟩
        rw [HZZ.out]
        unfold playCfg
        dsimp only
        rw [HK1.out, Int.toNat_natCast]
      · go_simp
        refine hK.out _ _ (by (first | exact HKA.out _ | exact HKB.out _ _ | exact hHeld)) (fun hHeld2 => ?_)
        clear hK K hHeld; have hHeld := hHeld2; clear hHeld2; (try simp only [Act.put, List.getElem_toArray, List.getElem_cons_zero, List.getElem_cons_succ, List.setIfInBounds_toArray, List.set_cons_zero, List.set_cons_succ])
        refine wpAnyH_ready (rs := [9]) (by kernel_rfl) (by simp) ?_
        refine AllReadyH.cons rfl (fun K hK => ?_) AllReadyH.nil
        go_simp
        refine hK.out _ _ (by (first | exact HKA.out _ | exact HKB.out _ _ | exact hHeld)) (fun hHeld2 => ?_)
        clear hK K hHeld; have hHeld := hHeld2; clear hHeld2; (try simp only [Act.put, List.getElem_toArray, List.getElem_cons_zero, List.getElem_cons_succ, List.setIfInBounds_toArray, List.set_cons_zero, List.set_cons_succ])
        (refine wpAnyH_take (i := 22) (v := ?_) rfl (by kernel_rfl) (by kernel_rfl) (by kernel_rfl) (fun _ _ _ h => h) (Or.inl ⟨by rfl, ?_⟩) hHeld ?_; rotate_left 1; focus (intro w hSw; (try dsimp only at hSw); go_simp; try with_reducible rfl)); (try simp only [Act.put, List.getElem_toArray, List.getElem_cons_zero, List.getElem_cons_succ, List.setIfInBounds_toArray, List.set_cons_zero, List.set_cons_succ])
        refine wpAnyH_ready (rs := [24]) (by kernel_rfl) (by simp) ?_
        refine AllReadyH.cons rfl (fun K hK => ?_) AllReadyH.nil
        go_simp
        refine hK.out _ _ (by (first | exact HKA.out _ | exact HKB.out _ _ | exact hHeld)) (fun hHeld2 => ?_)
        clear hK K hHeld; have hHeld := hHeld2; clear hHeld2; (try simp only [Act.put, List.getElem_toArray, List.getElem_cons_zero, List.getElem_cons_succ, List.setIfInBounds_toArray, List.set_cons_zero, List.set_cons_succ])
        refine wpAnyH_done (by kernel_rfl) ?_ _
        obtain ⟨XB, hXB⟩ : ∃ XB, XB = W.heap.size + 1 := ⟨_, rfl⟩
        generalize hw3 : World.drew (World.alloc (World.alloc W _) _) = w3
        have B3 := Lib.hid (show Below W.heap.size W w3 by rw [← hw3]; exact below_of_drew0 (((Below.refl _ _).alloc (Nat.le_refl _) _).alloc (by simp) _))
        obtain ⟨Z, bx, hZ⟩ : ∃ Z, Blk w3 XB [.int .i64 (k : Int), .int .i64 0, .int .i64 Z, .int .i64 (1 + modOf cqueue 5), .int .i64 (1 + modOf cchunk 4), .int .i64 (1 + modOf cbatch 4), .int .i64 0, .int .i64 0, .int .i64 0, .int .i64 0] ∧ (playCfg ⟨ctables, clate, csize, cqueue, cchunk, cbatch, cbase, ccap, cjitter, cevery⟩).size = Z := ⟨_, (by rw [← hw3, hXB]; exact (Blk.new rfl (by simp)).drew), HZ.out⟩
        have BX3 := Lib.hid bx
        have HXG := Lib.hid (show W.heap.size ≤ XB by rw [hXB]; omega)
        have HZZ := Lib.hid hZ
        have BC3 := Lib.hid (BC.out.after B3.out)
        have BR3 := Lib.hid (BR.out.after B3.out)
        have nCXn : CB ≠ XB := by have := HCW.out.1; have := HXG.out; omega
        have nRXn : RB ≠ XB := by have := HCW.out.2.1; have := HXG.out; omega
        have nCX : (CB = XB) = False := by simp; have := HCW.out.1; omega
        have nXC : (XB = CB) = False := by simp; have := HCW.out.1; omega
        have nRX : (RB = XB) = False := by simp; have := HCW.out.2.1; omega
        have nXR : (XB = RB) = False := by simp; have := HCW.out.2.1; omega
        rw [← hXB]
        clear hXB hw3 bx hZ c0 c2 c3 c4 c5 hHeld
        have c1 := BC3.out.1 1 _ rfl
        have c6 := BC3.out.1 6 _ rfl
        have x0 := BX3.out.1 0 _ rfl
        have x1 := BX3.out.1 1 _ rfl
        have x6 := BX3.out.1 6 _ rfl
        have xz := BX3.out.2.1
        have hpw := (pow_small4 hk4).2.2
        go_wp2_with (first
          | (go_at_call 19; (with_reducible refine (mod_any clate (2 ^ k) _ (pow_small4 hk4).1 (pow_small4 hk4).2.1).mono ?_); rintro e w' ⟨rfl, rfl⟩)
          | (go_at_call 17; (with_reducible refine (big_any cbase 4 _ (by omega) (by omega)).mono ?_); rintro e w' ⟨rfl, rfl⟩)
          | fail)
        generalize hw4 : World.setCell (World.setCell w3 _ _) _ _ = w4
        have hXW := (show W.heap.size ≤ XB from HXG.out)
        have BX4 := Lib.hid (show Blk w4 XB [.int .i64 (k : Int), .int .i64 (modOf clate (2 ^ k)), .int .i64 Z, .int .i64 (1 + modOf cqueue 5), .int .i64 (1 + modOf cchunk 4), .int .i64 (1 + modOf cbatch 4), .int .i64 (1 + modOf cbase 4), .int .i64 0, .int .i64 0, .int .i64 0] by rw [← hw4]; exact (BX3.out.put (j := 1) (by simp) _ rfl).put (j := 6) (by simp) _ rfl)
        have BC4 := Lib.hid (show Blk w4 CB [.int .i64 ctables, .int .i64 clate, .int .i64 csize, .int .i64 cqueue, .int .i64 cchunk, .int .i64 cbatch, .int .i64 cbase, .int .i64 ccap, .int .i64 cjitter, .int .i64 cevery] by rw [← hw4]; exact (BC3.out.other nCXn _ _).other nCXn _ _)
        have BR4 := Lib.hid (show Blk w4 RB [.int .i64 0, .int .i64 0, .int .i64 0, .int .i64 0, .int .i64 0, .int .i64 0, .int .i64 0, .int .i64 0, .int .i64 0, .int .i64 0] by rw [← hw4]; exact (BR3.out.other nRXn _ _).other nRXn _ _)
        have B4 := Lib.hid (show Below W.heap.size W w4 by rw [← hw4]; exact (B3.out.setCell hXW _).setCell hXW _)
        have w7 : IntKind.i64.wrap (1 + modOf cbase 4 + modOf ccap 12) = 1 + modOf cbase 4 + modOf ccap 12 := IntWalk.i64_in _ (by omega)
        have HKK := Lib.hid (show ∀ v, (w4.setCell ⟨XB, 7, none⟩ v).cell? ⟨CB, 7, none⟩ = some (.int .i64 ccap) ∧ (w4.setCell ⟨XB, 7, none⟩ v).cell? ⟨XB, 6, none⟩ = some (.int .i64 (1 + modOf cbase 4)) from fun v => ⟨(BC4.out.other nCXn 7 v).1 7 _ rfl, (BX4.out.put (j := 7) (by simp) v rfl).1 6 _ rfl⟩)
        clear hw4 c1 c6 x0 x1 x6 xz
        have xz := BX4.out.2.1
        have c7 := BC4.out.1 7 _ rfl
        have x6 := BX4.out.1 6 _ rfl
        have x7 := BX4.out.1 7 _ rfl
        refine wp_region_held_drew (S := fun w' => w'.cell? ⟨CB, 7, none⟩ = some (.int .i64 ccap) ∧ w'.cell? ⟨XB, 6, none⟩ = some (.int .i64 (1 + modOf cbase 4))) (by kernel_rfl) (⟨c7, x6⟩) (fun hHeld => ?_)
        (refine wpAnyH_take (i := 0) (v := ?_) rfl (by kernel_rfl) (by kernel_rfl) (by kernel_rfl) (fun _ _ _ h => h) (Or.inl ⟨by rfl, ?_⟩) hHeld ?_; rotate_left 1; focus (intro w hSw; (try dsimp only at hSw); go_simp; try with_reducible rfl)); (try simp only [Act.put, List.getElem_toArray, List.getElem_cons_zero, List.getElem_cons_succ, List.setIfInBounds_toArray, List.set_cons_zero, List.set_cons_succ])
        (refine wpAnyH_take (i := 1) (v := ?_) rfl (by kernel_rfl) (by kernel_rfl) (by kernel_rfl) (fun _ _ _ h => h) (Or.inl ⟨by rfl, ?_⟩) hHeld ?_; rotate_left 1; focus (intro w hSw; (try dsimp only at hSw); go_simp; try with_reducible rfl)); (try simp only [Act.put, List.getElem_toArray, List.getElem_cons_zero, List.getElem_cons_succ, List.setIfInBounds_toArray, List.set_cons_zero, List.set_cons_succ])
        (refine wpAnyH_take (i := 2) (v := ?_) rfl (by kernel_rfl) (by kernel_rfl) (by kernel_rfl) (fun _ _ _ h => h) (Or.inl ⟨by rfl, ?_⟩) hHeld ?_; rotate_left 1; focus (intro w hSw; (try dsimp only at hSw); go_simp; try with_reducible rfl)); (try simp only [Act.put, List.getElem_toArray, List.getElem_cons_zero, List.getElem_cons_succ, List.setIfInBounds_toArray, List.set_cons_zero, List.set_cons_succ])
        (refine wpAnyH_take (i := 3) (v := ?_) rfl (by kernel_rfl) (by kernel_rfl) (by kernel_rfl) (fun _ _ _ h => h) (Or.inl ⟨by rfl, ?_⟩) hHeld ?_; rotate_left 1; focus (intro w hSw; (try dsimp only at hSw); go_simp; try with_reducible rfl)); (try simp only [Act.put, List.getElem_toArray, List.getElem_cons_zero, List.getElem_cons_succ, List.setIfInBounds_toArray, List.set_cons_zero, List.set_cons_succ])
        refine wpAnyH_call (i := 4) (v := .int .i64 (modOf ccap 12)) rfl (by kernel_rfl) (by kernel_rfl) (by kernel_rfl) (fun _ _ _ h => h) ⟨by rfl, 17, #[.int .i64 ccap, .int .i64 12], fun w hSw => ⟨by (go_simp; try with_reducible rfl), big_any ccap 12 w (by omega) (by omega)⟩⟩ hHeld ?_; (try simp only [Act.put, List.getElem_toArray, List.getElem_cons_zero, List.getElem_cons_succ, List.setIfInBounds_toArray, List.set_cons_zero, List.set_cons_succ])
        (refine wpAnyH_take (i := 5) (v := ?_) rfl (by kernel_rfl) (by kernel_rfl) (by kernel_rfl) (fun _ _ _ h => h) (Or.inl ⟨by rfl, ?_⟩) hHeld ?_; rotate_left 1; focus (intro w hSw; (try dsimp only at hSw); go_simp; try with_reducible rfl)); (try simp only [Act.put, List.getElem_toArray, List.getElem_cons_zero, List.getElem_cons_succ, List.setIfInBounds_toArray, List.set_cons_zero, List.set_cons_succ])
        (refine wpAnyH_take (i := 6) (v := ?_) rfl (by kernel_rfl) (by kernel_rfl) (by kernel_rfl) (fun _ _ _ h => h) (Or.inl ⟨by rfl, ?_⟩) hHeld ?_; rotate_left 1; focus (intro w hSw; (try dsimp only at hSw); go_simp; try with_reducible rfl)); (try simp only [Act.put, List.getElem_toArray, List.getElem_cons_zero, List.getElem_cons_succ, List.setIfInBounds_toArray, List.set_cons_zero, List.set_cons_succ])
        refine wpAnyH_ready (rs := [7]) (by kernel_rfl) (by simp) ?_
        refine AllReadyH.cons rfl (fun K hK => ?_) AllReadyH.nil
        go_simp
        refine hK.out _ _ (by exact HKK.out _) (fun hHeld2 => ?_)
        clear hK K hHeld; have hHeld := hHeld2; clear hHeld2; (try simp only [Act.put, List.getElem_toArray, List.getElem_cons_zero, List.getElem_cons_succ, List.setIfInBounds_toArray, List.set_cons_zero, List.set_cons_succ])
        refine wpAnyH_done (by kernel_rfl) ?_ _
        generalize hw5 : World.drew (World.setCell w4 _ _) = w5
        have BX5 := Lib.hid (show Blk w5 XB [.int .i64 (k : Int), .int .i64 (modOf clate (2 ^ k)), .int .i64 Z, .int .i64 (1 + modOf cqueue 5), .int .i64 (1 + modOf cchunk 4), .int .i64 (1 + modOf cbatch 4), .int .i64 (1 + modOf cbase 4), .int .i64 (1 + modOf cbase 4 + modOf ccap 12), .int .i64 0, .int .i64 0] by rw [← hw5]; exact (BX4.out.put (j := 7) (by simp) _ rfl).drew)
        have BC5 := Lib.hid (show Blk w5 CB [.int .i64 ctables, .int .i64 clate, .int .i64 csize, .int .i64 cqueue, .int .i64 cchunk, .int .i64 cbatch, .int .i64 cbase, .int .i64 ccap, .int .i64 cjitter, .int .i64 cevery] by rw [← hw5]; exact (BC4.out.other nCXn _ _).drew)
        have BR5 := Lib.hid (show Blk w5 RB [.int .i64 0, .int .i64 0, .int .i64 0, .int .i64 0, .int .i64 0, .int .i64 0, .int .i64 0, .int .i64 0, .int .i64 0, .int .i64 0] by rw [← hw5]; exact (BR4.out.other nRXn _ _).drew)
        have B5 := Lib.hid (show Below W.heap.size W w5 by rw [← hw5]; exact below_of_drew0 (B4.out.setCell hXW _))
        clear hw5 c7 x6 x7 xz w7 HKK hHeld
        have c8 := BC5.out.1 8 _ rfl
        have c9 := BC5.out.1 9 _ rfl
        have xz := BX5.out.2.1
        have rz := BR5.out.2.1
        have x0 := BX5.out.1 0 _ rfl
        have x1 := BX5.out.1 1 _ rfl
        have x2 := BX5.out.1 2 _ rfl
        have x3 := BX5.out.1 3 _ rfl
        have x4 := BX5.out.1 4 _ rfl
        have x5 := BX5.out.1 5 _ rfl
        have x6 := BX5.out.1 6 _ rfl
        have x7 := BX5.out.1 7 _ rfl
        have x8 := BX5.out.1 8 _ rfl
        have x9 := BX5.out.1 9 _ rfl
        have r0 := BR5.out.1 0 _ rfl
        have r1 := BR5.out.1 1 _ rfl
        have r2 := BR5.out.1 2 _ rfl
        have r3 := BR5.out.1 3 _ rfl
        have r4 := BR5.out.1 4 _ rfl
        have r5 := BR5.out.1 5 _ rfl
        have r6 := BR5.out.1 6 _ rfl
        have r7 := BR5.out.1 7 _ rfl
        have r8 := BR5.out.1 8 _ rfl
        have r9 := BR5.out.1 9 _ rfl
        go_wp2_with (first
          | (go_at_call 17; (with_reducible refine (big_any cjitter 4 _ (by omega) (by omega)).mono ?_); rintro e w' ⟨rfl, rfl⟩)
          | (go_at_call 17; (with_reducible refine (big_any cevery 8 _ (by omega) (by omega)).mono ?_); rintro e w' ⟨rfl, rfl⟩)
          | fail)
        generalize hw9 : World.setCell _ ⟨RB, 9, none⟩ _ = w9
        have hWR := (show w.heap.size ≤ RB by have := H2.out; omega)
        have hWX := (show w.heap.size ≤ XB from Nat.le_trans HB.out.size hXW)
        have BR9 := Lib.hid (show Blk w9 RB [.int .i64 (k : Int), .int .i64 (modOf clate (2 ^ k)), .int .i64 Z, .int .i64 (1 + modOf cqueue 5), .int .i64 (1 + modOf cchunk 4), .int .i64 (1 + modOf cbatch 4), .int .i64 (1 + modOf cbase 4), .int .i64 (1 + modOf cbase 4 + modOf ccap 12), .int .i64 (modOf cjitter 4), .int .i64 (1 + modOf cevery 8)] by rw [← hw9]; exact ((((((((((((BR5.out.other nRXn 8 _).other nRXn 9 _).put (j := 0) (by simp) _ rfl).put (j := 1) (by simp) _ rfl).put (j := 2) (by simp) _ rfl).put (j := 3) (by simp) _ rfl).put (j := 4) (by simp) _ rfl).put (j := 5) (by simp) _ rfl).put (j := 6) (by simp) _ rfl).put (j := 7) (by simp) _ rfl).put (j := 8) (by simp) _ rfl).put (j := 9) (by simp) _ rfl))
        have B9 := Lib.hid (show Below w.heap.size w w9 by rw [← hw9]; exact (((((((((((((HB.out.trans (B5.out.mono HB.out.size)).setCell hWX _).setCell hWX _).setCell hWR _).setCell hWR _).setCell hWR _).setCell hWR _).setCell hWR _).setCell hWR _).setCell hWR _).setCell hWR _).setCell hWR _).setCell hWR _))
        clear hw9 c8 c9 xz rz x0 x1 x2 x3 x4 x5 x6 x7 x8 x9 r0 r1 r2 r3 r4 r5 r6 r7 r8 r9
        have r0 := BR9.out.1 0 _ rfl
        have r1 := BR9.out.1 1 _ rfl
        have r2 := BR9.out.1 2 _ rfl
        have r3 := BR9.out.1 3 _ rfl
        have r4 := BR9.out.1 4 _ rfl
        have r5 := BR9.out.1 5 _ rfl
        have r6 := BR9.out.1 6 _ rfl
        have r7 := BR9.out.1 7 _ rfl
        have r8 := BR9.out.1 8 _ rfl
        have r9 := BR9.out.1 9 _ rfl
        refine bodyPost_ret (by simp [results, Try.results24, go_sem, r0, r1, r2, r3, r4, r5, r6, r7, r8, r9]; try rfl) rfl ?_
        refine ⟨?_, B9.out⟩
        rw [HZZ.out]
        unfold playCfg
        dsimp only
        rw [HK1.out, Int.toNat_natCast]
    · go_simp
      refine hK.out _ _ (by (first | exact HKA.out _ | exact HKB.out _ _ | exact hHeld)) (fun hHeld2 => ?_)
      clear hK K hHeld; have hHeld := hHeld2; clear hHeld2; (try simp only [Act.put, List.getElem_toArray, List.getElem_cons_zero, List.getElem_cons_succ, List.setIfInBounds_toArray, List.set_cons_zero, List.set_cons_succ])
      refine wpAnyH_ready (rs := [4]) (by kernel_rfl) (by simp) ?_
      refine AllReadyH.cons rfl (fun K hK => ?_) AllReadyH.nil
      go_simp
      refine hK.out _ _ (by (first | exact HKA.out _ | exact HKB.out _ _ | exact hHeld)) (fun hHeld2 => ?_)
      clear hK K hHeld; have hHeld := hHeld2; clear hHeld2; (try simp only [Act.put, List.getElem_toArray, List.getElem_cons_zero, List.getElem_cons_succ, List.setIfInBounds_toArray, List.set_cons_zero, List.set_cons_succ])
      (refine wpAnyH_take (i := 8) (v := ?_) rfl (by kernel_rfl) (by kernel_rfl) (by kernel_rfl) (fun _ _ _ h => h) (Or.inl ⟨by rfl, ?_⟩) hHeld ?_; rotate_left 1; focus (intro w hSw; (try dsimp only at hSw); go_simp; try with_reducible rfl)); (try simp only [Act.put, List.getElem_toArray, List.getElem_cons_zero, List.getElem_cons_succ, List.setIfInBounds_toArray, List.set_cons_zero, List.set_cons_succ])
      refine wpAnyH_ready (rs := [9]) (by kernel_rfl) (by simp) ?_
      refine AllReadyH.cons rfl (fun K hK => ?_) AllReadyH.nil
      go_simp
      refine hK.out _ _ (by (first | exact HKA.out _ | exact HKB.out _ _ | exact hHeld)) (fun hHeld2 => ?_)
      clear hK K hHeld; have hHeld := hHeld2; clear hHeld2; (try simp only [Act.put, List.getElem_toArray, List.getElem_cons_zero, List.getElem_cons_succ, List.setIfInBounds_toArray, List.set_cons_zero, List.set_cons_succ])
      (refine wpAnyH_take (i := 22) (v := ?_) rfl (by kernel_rfl) (by kernel_rfl) (by kernel_rfl) (fun _ _ _ h => h) (Or.inl ⟨by rfl, ?_⟩) hHeld ?_; rotate_left 1; focus (intro w hSw; (try dsimp only at hSw); go_simp; try with_reducible rfl)); (try simp only [Act.put, List.getElem_toArray, List.getElem_cons_zero, List.getElem_cons_succ, List.setIfInBounds_toArray, List.set_cons_zero, List.set_cons_succ])
      refine wpAnyH_ready (rs := [24]) (by kernel_rfl) (by simp) ?_
      refine AllReadyH.cons rfl (fun K hK => ?_) AllReadyH.nil
      go_simp
      refine hK.out _ _ (by (first | exact HKA.out _ | exact HKB.out _ _ | exact hHeld)) (fun hHeld2 => ?_)
      clear hK K hHeld; have hHeld := hHeld2; clear hHeld2; (try simp only [Act.put, List.getElem_toArray, List.getElem_cons_zero, List.getElem_cons_succ, List.setIfInBounds_toArray, List.set_cons_zero, List.set_cons_succ])
      refine wpAnyH_done (by kernel_rfl) ?_ _
      obtain ⟨XB, hXB⟩ : ∃ XB, XB = W.heap.size := ⟨_, rfl⟩
      generalize hw3 : World.drew (World.alloc (World.alloc W _) _) = w3
      have B3 := Lib.hid (show Below W.heap.size W w3 by rw [← hw3]; exact below_of_drew0 (((Below.refl _ _).alloc (Nat.le_refl _) _).alloc (by simp) _))
      obtain ⟨Z, bx, hZ⟩ : ∃ Z, Blk w3 XB [.int .i64 (k : Int), .int .i64 0, .int .i64 Z, .int .i64 (1 + modOf cqueue 5), .int .i64 (1 + modOf cchunk 4), .int .i64 (1 + modOf cbatch 4), .int .i64 0, .int .i64 0, .int .i64 0, .int .i64 0] ∧ (playCfg ⟨ctables, clate, csize, cqueue, cchunk, cbatch, cbase, ccap, cjitter, cevery⟩).size = Z := ⟨_, (by rw [← hw3, hXB]; exact ((Blk.new rfl rfl).alloc _).drew), HZ.out⟩
      have BX3 := Lib.hid bx
      have HXG := Lib.hid (show W.heap.size ≤ XB by rw [hXB]; omega)
      have HZZ := Lib.hid hZ
      have BC3 := Lib.hid (BC.out.after B3.out)
      have BR3 := Lib.hid (BR.out.after B3.out)
      have nCXn : CB ≠ XB := by have := HCW.out.1; have := HXG.out; omega
      have nRXn : RB ≠ XB := by have := HCW.out.2.1; have := HXG.out; omega
      have nCX : (CB = XB) = False := by simp; have := HCW.out.1; omega
      have nXC : (XB = CB) = False := by simp; have := HCW.out.1; omega
      have nRX : (RB = XB) = False := by simp; have := HCW.out.2.1; omega
      have nXR : (XB = RB) = False := by simp; have := HCW.out.2.1; omega
      rw [← hXB]
      clear hXB hw3 bx hZ c0 c2 c3 c4 c5 hHeld
      have c1 := BC3.out.1 1 _ rfl
      have c6 := BC3.out.1 6 _ rfl
      have x0 := BX3.out.1 0 _ rfl
      have x1 := BX3.out.1 1 _ rfl
      have x6 := BX3.out.1 6 _ rfl
      have xz := BX3.out.2.1
      have hpw := (pow_small4 hk4).2.2
      go_wp2_with (first
        | (go_at_call 19; (with_reducible refine (mod_any clate (2 ^ k) _ (pow_small4 hk4).1 (pow_small4 hk4).2.1).mono ?_); rintro e w' ⟨rfl, rfl⟩)
        | (go_at_call 17; (with_reducible refine (big_any cbase 4 _ (by omega) (by omega)).mono ?_); rintro e w' ⟨rfl, rfl⟩)
        | fail)
      generalize hw4 : World.setCell (World.setCell w3 _ _) _ _ = w4
      have hXW := (show W.heap.size ≤ XB from HXG.out)
      have BX4 := Lib.hid (show Blk w4 XB [.int .i64 (k : Int), .int .i64 (modOf clate (2 ^ k)), .int .i64 Z, .int .i64 (1 + modOf cqueue 5), .int .i64 (1 + modOf cchunk 4), .int .i64 (1 + modOf cbatch 4), .int .i64 (1 + modOf cbase 4), .int .i64 0, .int .i64 0, .int .i64 0] by rw [← hw4]; exact (BX3.out.put (j := 1) (by simp) _ rfl).put (j := 6) (by simp) _ rfl)
      have BC4 := Lib.hid (show Blk w4 CB [.int .i64 ctables, .int .i64 clate, .int .i64 csize, .int .i64 cqueue, .int .i64 cchunk, .int .i64 cbatch, .int .i64 cbase, .int .i64 ccap, .int .i64 cjitter, .int .i64 cevery] by rw [← hw4]; exact (BC3.out.other nCXn _ _).other nCXn _ _)
      have BR4 := Lib.hid (show Blk w4 RB [.int .i64 0, .int .i64 0, .int .i64 0, .int .i64 0, .int .i64 0, .int .i64 0, .int .i64 0, .int .i64 0, .int .i64 0, .int .i64 0] by rw [← hw4]; exact (BR3.out.other nRXn _ _).other nRXn _ _)
      have B4 := Lib.hid (show Below W.heap.size W w4 by rw [← hw4]; exact (B3.out.setCell hXW _).setCell hXW _)
      have w7 : IntKind.i64.wrap (1 + modOf cbase 4 + modOf ccap 12) = 1 + modOf cbase 4 + modOf ccap 12 := IntWalk.i64_in _ (by omega)
      have HKK := Lib.hid (show ∀ v, (w4.setCell ⟨XB, 7, none⟩ v).cell? ⟨CB, 7, none⟩ = some (.int .i64 ccap) ∧ (w4.setCell ⟨XB, 7, none⟩ v).cell? ⟨XB, 6, none⟩ = some (.int .i64 (1 + modOf cbase 4)) from fun v => ⟨(BC4.out.other nCXn 7 v).1 7 _ rfl, (BX4.out.put (j := 7) (by simp) v rfl).1 6 _ rfl⟩)
      clear hw4 c1 c6 x0 x1 x6 xz
      have xz := BX4.out.2.1
      have c7 := BC4.out.1 7 _ rfl
      have x6 := BX4.out.1 6 _ rfl
      have x7 := BX4.out.1 7 _ rfl
      refine wp_region_held_drew (S := fun w' => w'.cell? ⟨CB, 7, none⟩ = some (.int .i64 ccap) ∧ w'.cell? ⟨XB, 6, none⟩ = some (.int .i64 (1 + modOf cbase 4))) (by kernel_rfl) (⟨c7, x6⟩) (fun hHeld => ?_)
      (refine wpAnyH_take (i := 0) (v := ?_) rfl (by kernel_rfl) (by kernel_rfl) (by kernel_rfl) (fun _ _ _ h => h) (Or.inl ⟨by rfl, ?_⟩) hHeld ?_; rotate_left 1; focus (intro w hSw; (try dsimp only at hSw); go_simp; try with_reducible rfl)); (try simp only [Act.put, List.getElem_toArray, List.getElem_cons_zero, List.getElem_cons_succ, List.setIfInBounds_toArray, List.set_cons_zero, List.set_cons_succ])
      (refine wpAnyH_take (i := 1) (v := ?_) rfl (by kernel_rfl) (by kernel_rfl) (by kernel_rfl) (fun _ _ _ h => h) (Or.inl ⟨by rfl, ?_⟩) hHeld ?_; rotate_left 1; focus (intro w hSw; (try dsimp only at hSw); go_simp; try with_reducible rfl)); (try simp only [Act.put, List.getElem_toArray, List.getElem_cons_zero, List.getElem_cons_succ, List.setIfInBounds_toArray, List.set_cons_zero, List.set_cons_succ])
      (refine wpAnyH_take (i := 2) (v := ?_) rfl (by kernel_rfl) (by kernel_rfl) (by kernel_rfl) (fun _ _ _ h => h) (Or.inl ⟨by rfl, ?_⟩) hHeld ?_; rotate_left 1; focus (intro w hSw; (try dsimp only at hSw); go_simp; try with_reducible rfl)); (try simp only [Act.put, List.getElem_toArray, List.getElem_cons_zero, List.getElem_cons_succ, List.setIfInBounds_toArray, List.set_cons_zero, List.set_cons_succ])
      (refine wpAnyH_take (i := 3) (v := ?_) rfl (by kernel_rfl) (by kernel_rfl) (by kernel_rfl) (fun _ _ _ h => h) (Or.inl ⟨by rfl, ?_⟩) hHeld ?_; rotate_left 1; focus (intro w hSw; (try dsimp only at hSw); go_simp; try with_reducible rfl)); (try simp only [Act.put, List.getElem_toArray, List.getElem_cons_zero, List.getElem_cons_succ, List.setIfInBounds_toArray, List.set_cons_zero, List.set_cons_succ])
      refine wpAnyH_call (i := 4) (v := .int .i64 (modOf ccap 12)) rfl (by kernel_rfl) (by kernel_rfl) (by kernel_rfl) (fun _ _ _ h => h) ⟨by rfl, 17, #[.int .i64 ccap, .int .i64 12], fun w hSw => ⟨by (go_simp; try with_reducible rfl), big_any ccap 12 w (by omega) (by omega)⟩⟩ hHeld ?_; (try simp only [Act.put, List.getElem_toArray, List.getElem_cons_zero, List.getElem_cons_succ, List.setIfInBounds_toArray, List.set_cons_zero, List.set_cons_succ])
      (refine wpAnyH_take (i := 5) (v := ?_) rfl (by kernel_rfl) (by kernel_rfl) (by kernel_rfl) (fun _ _ _ h => h) (Or.inl ⟨by rfl, ?_⟩) hHeld ?_; rotate_left 1; focus (intro w hSw; (try dsimp only at hSw); go_simp; try with_reducible rfl)); (try simp only [Act.put, List.getElem_toArray, List.getElem_cons_zero, List.getElem_cons_succ, List.setIfInBounds_toArray, List.set_cons_zero, List.set_cons_succ])
      (refine wpAnyH_take (i := 6) (v := ?_) rfl (by kernel_rfl) (by kernel_rfl) (by kernel_rfl) (fun _ _ _ h => h) (Or.inl ⟨by rfl, ?_⟩) hHeld ?_; rotate_left 1; focus (intro w hSw; (try dsimp only at hSw); go_simp; try with_reducible rfl)); (try simp only [Act.put, List.getElem_toArray, List.getElem_cons_zero, List.getElem_cons_succ, List.setIfInBounds_toArray, List.set_cons_zero, List.set_cons_succ])
      refine wpAnyH_ready (rs := [7]) (by kernel_rfl) (by simp) ?_
      refine AllReadyH.cons rfl (fun K hK => ?_) AllReadyH.nil
      go_simp
      refine hK.out _ _ (by exact HKK.out _) (fun hHeld2 => ?_)
      clear hK K hHeld; have hHeld := hHeld2; clear hHeld2; (try simp only [Act.put, List.getElem_toArray, List.getElem_cons_zero, List.getElem_cons_succ, List.setIfInBounds_toArray, List.set_cons_zero, List.set_cons_succ])
      refine wpAnyH_done (by kernel_rfl) ?_ _
      generalize hw5 : World.drew (World.setCell w4 _ _) = w5
      have BX5 := Lib.hid (show Blk w5 XB [.int .i64 (k : Int), .int .i64 (modOf clate (2 ^ k)), .int .i64 Z, .int .i64 (1 + modOf cqueue 5), .int .i64 (1 + modOf cchunk 4), .int .i64 (1 + modOf cbatch 4), .int .i64 (1 + modOf cbase 4), .int .i64 (1 + modOf cbase 4 + modOf ccap 12), .int .i64 0, .int .i64 0] by rw [← hw5]; exact (BX4.out.put (j := 7) (by simp) _ rfl).drew)
      have BC5 := Lib.hid (show Blk w5 CB [.int .i64 ctables, .int .i64 clate, .int .i64 csize, .int .i64 cqueue, .int .i64 cchunk, .int .i64 cbatch, .int .i64 cbase, .int .i64 ccap, .int .i64 cjitter, .int .i64 cevery] by rw [← hw5]; exact (BC4.out.other nCXn _ _).drew)
      have BR5 := Lib.hid (show Blk w5 RB [.int .i64 0, .int .i64 0, .int .i64 0, .int .i64 0, .int .i64 0, .int .i64 0, .int .i64 0, .int .i64 0, .int .i64 0, .int .i64 0] by rw [← hw5]; exact (BR4.out.other nRXn _ _).drew)
      have B5 := Lib.hid (show Below W.heap.size W w5 by rw [← hw5]; exact below_of_drew0 (B4.out.setCell hXW _))
      clear hw5 c7 x6 x7 xz w7 HKK hHeld
      have c8 := BC5.out.1 8 _ rfl
      have c9 := BC5.out.1 9 _ rfl
      have xz := BX5.out.2.1
      have rz := BR5.out.2.1
      have x0 := BX5.out.1 0 _ rfl
      have x1 := BX5.out.1 1 _ rfl
      have x2 := BX5.out.1 2 _ rfl
      have x3 := BX5.out.1 3 _ rfl
      have x4 := BX5.out.1 4 _ rfl
      have x5 := BX5.out.1 5 _ rfl
      have x6 := BX5.out.1 6 _ rfl
      have x7 := BX5.out.1 7 _ rfl
      have x8 := BX5.out.1 8 _ rfl
      have x9 := BX5.out.1 9 _ rfl
      have r0 := BR5.out.1 0 _ rfl
      have r1 := BR5.out.1 1 _ rfl
      have r2 := BR5.out.1 2 _ rfl
      have r3 := BR5.out.1 3 _ rfl
      have r4 := BR5.out.1 4 _ rfl
      have r5 := BR5.out.1 5 _ rfl
      have r6 := BR5.out.1 6 _ rfl
      have r7 := BR5.out.1 7 _ rfl
      have r8 := BR5.out.1 8 _ rfl
      have r9 := BR5.out.1 9 _ rfl
      go_wp2_with (first
        | (go_at_call 17; (with_reducible refine (big_any cjitter 4 _ (by omega) (by omega)).mono ?_); rintro e w' ⟨rfl, rfl⟩)
        | (go_at_call 17; (with_reducible refine (big_any cevery 8 _ (by omega) (by omega)).mono ?_); rintro e w' ⟨rfl, rfl⟩)
        | fail)
      generalize hw9 : World.setCell _ ⟨RB, 9, none⟩ _ = w9
      have hWR := (show w.heap.size ≤ RB by have := H2.out; omega)
      have hWX := (show w.heap.size ≤ XB from Nat.le_trans HB.out.size hXW)
      have BR9 := Lib.hid (show Blk w9 RB [.int .i64 (k : Int), .int .i64 (modOf clate (2 ^ k)), .int .i64 Z, .int .i64 (1 + modOf cqueue 5), .int .i64 (1 + modOf cchunk 4), .int .i64 (1 + modOf cbatch 4), .int .i64 (1 + modOf cbase 4), .int .i64 (1 + modOf cbase 4 + modOf ccap 12), .int .i64 (modOf cjitter 4), .int .i64 (1 + modOf cevery 8)] by rw [← hw9]; exact ((((((((((((BR5.out.other nRXn 8 _).other nRXn 9 _).put (j := 0) (by simp) _ rfl).put (j := 1) (by simp) _ rfl).put (j := 2) (by simp) _ rfl).put (j := 3) (by simp) _ rfl).put (j := 4) (by simp) _ rfl).put (j := 5) (by simp) _ rfl).put (j := 6) (by simp) _ rfl).put (j := 7) (by simp) _ rfl).put (j := 8) (by simp) _ rfl).put (j := 9) (by simp) _ rfl))
      have B9 := Lib.hid (show Below w.heap.size w w9 by rw [← hw9]; exact (((((((((((((HB.out.trans (B5.out.mono HB.out.size)).setCell hWX _).setCell hWX _).setCell hWR _).setCell hWR _).setCell hWR _).setCell hWR _).setCell hWR _).setCell hWR _).setCell hWR _).setCell hWR _).setCell hWR _).setCell hWR _))
      clear hw9 c8 c9 xz rz x0 x1 x2 x3 x4 x5 x6 x7 x8 x9 r0 r1 r2 r3 r4 r5 r6 r7 r8 r9
      have r0 := BR9.out.1 0 _ rfl
      have r1 := BR9.out.1 1 _ rfl
      have r2 := BR9.out.1 2 _ rfl
      have r3 := BR9.out.1 3 _ rfl
      have r4 := BR9.out.1 4 _ rfl
      have r5 := BR9.out.1 5 _ rfl
      have r6 := BR9.out.1 6 _ rfl
      have r7 := BR9.out.1 7 _ rfl
      have r8 := BR9.out.1 8 _ rfl
      have r9 := BR9.out.1 9 _ rfl
      refine bodyPost_ret (by simp [results, Try.results24, go_sem, r0, r1, r2, r3, r4, r5, r6, r7, r8, r9]; try rfl) rfl ?_
      refine ⟨?_, B9.out⟩
      rw [HZZ.out]
      unfold playCfg
      dsimp only
      rw [HK1.out, Int.toNat_natCast]
end Go.Proofs.Ythhpddiicnjmmaa
