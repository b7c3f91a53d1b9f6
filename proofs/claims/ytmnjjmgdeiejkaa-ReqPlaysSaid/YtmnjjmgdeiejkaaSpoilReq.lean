/- The contract of Spoil at requests: the one block is written. -/
import Derived.Test.YtmnjjmgdeiejkaaHelpReq
namespace Go.Proofs.Ytmnjjmgdeiejkaa
open Go.RowKit

theorem grown_setg {w w' : World} {g : Nat} (h : w.grownBy w' (some g)) (j : Nat) (u : Value) : w.grownBy (w'.setCell ⟨g, j, none⟩ u) (some g) :=
  ⟨h.os, h.tape, h.output, by simpa using h.size, fun k hk hr => (Below.heap_setCell w' _ u k (fun e => hr (by rw [e]))).trans (h.block k hk hr)⟩

set_option maxHeartbeats 2000000 in
theorem spoilG_req (g n c N : Nat) (w : World) (hsol : Solid w g (N * 7)) (hn : n ≤ N) (hn2 : n ≤ 281474976710656) (hgs : g < w.heap.size) :
    Calls Try.prog 37 #[.slice (some ⟨g, 0, none⟩) n c] w fun e w' => e = .returned (.tuple #[]) ∧ w.grownBy w' (some g) := by
  have hne : g ≠ w.heap.size := by omega
  have hne2 : w.heap.size ≠ g := by omega
  go_enter Try.func37, Try.ntmps37
  go_wp2_with fail
  go_loopw [3] (fun i wr => ∃ p : Nat, i = .int .i64 p ∧ p ≤ n ∧ wr.heap[w.heap.size]? = (w.alloc (.cells #[.int .i64 0, .int .i64 0, .int .i64 0, .int .i64 0, .int .i64 0, .int .i64 0, .bool false] 54)).heap[w.heap.size]? ∧ Solid wr g (N * 7) ∧ w.grownBy wr (some g)) (fun i _ => n - (intOf i).toNat)
  case atStart => exact ⟨0, rfl, Nat.zero_le _, rfl, hsol.below ((Below.refl w.heap.size w).alloc (Nat.le_refl _) _) hgs, World.grownBy_alloc w _ _⟩
  case round =>
    obtain ⟨p, rfl, hp, hz, hsol, hbel⟩ := hrel
    obtain ⟨wo, rfl⟩ : ∃ wo : World, wo = wr := ⟨_, rfl⟩
    by_cases hlt : p < n
    · have hNp : p + 1 ≤ N := by omega
      obtain ⟨u0, c0, z0⟩ : ∃ u, wo.cell? ⟨g, p * 7, none⟩ = some u ∧ wo.frozen? ⟨g, p * 7, none⟩ = false := hsol _ (by omega)
      obtain ⟨u1, c1, z1⟩ : ∃ u, wo.cell? ⟨g, p * 7 + 1, none⟩ = some u ∧ wo.frozen? ⟨g, p * 7 + 1, none⟩ = false := hsol _ (by omega)
      obtain ⟨u2, c2, z2⟩ : ∃ u, wo.cell? ⟨g, p * 7 + 2, none⟩ = some u ∧ wo.frozen? ⟨g, p * 7 + 2, none⟩ = false := hsol _ (by omega)
      obtain ⟨u3, c3, z3⟩ : ∃ u, wo.cell? ⟨g, p * 7 + 3, none⟩ = some u ∧ wo.frozen? ⟨g, p * 7 + 3, none⟩ = false := hsol _ (by omega)
      obtain ⟨u4, c4, z4⟩ : ∃ u, wo.cell? ⟨g, p * 7 + 4, none⟩ = some u ∧ wo.frozen? ⟨g, p * 7 + 4, none⟩ = false := hsol _ (by omega)
      obtain ⟨u5, c5, z5⟩ : ∃ u, wo.cell? ⟨g, p * 7 + 5, none⟩ = some u ∧ wo.frozen? ⟨g, p * 7 + 5, none⟩ = false := hsol _ (by omega)
      obtain ⟨u6, c6, z6⟩ : ∃ u, wo.cell? ⟨g, p * 7 + 6, none⟩ = some u ∧ wo.frozen? ⟨g, p * 7 + 6, none⟩ = false := hsol _ (by omega)
      have f0 : wo.cell? ⟨w.heap.size, 0, none⟩ = some (.int .i64 0) := (World.cell?_of_block (a := ⟨w.heap.size, 0, none⟩) hz).trans (World.cell?_alloc_at _ _ _ _ rfl)
      have f1 : wo.cell? ⟨w.heap.size, 1, none⟩ = some (.int .i64 0) := (World.cell?_of_block (a := ⟨w.heap.size, 1, none⟩) hz).trans (World.cell?_alloc_at _ _ _ _ rfl)
      have f2 : wo.cell? ⟨w.heap.size, 2, none⟩ = some (.int .i64 0) := (World.cell?_of_block (a := ⟨w.heap.size, 2, none⟩) hz).trans (World.cell?_alloc_at _ _ _ _ rfl)
      have f3 : wo.cell? ⟨w.heap.size, 3, none⟩ = some (.int .i64 0) := (World.cell?_of_block (a := ⟨w.heap.size, 3, none⟩) hz).trans (World.cell?_alloc_at _ _ _ _ rfl)
      have f4 : wo.cell? ⟨w.heap.size, 4, none⟩ = some (.int .i64 0) := (World.cell?_of_block (a := ⟨w.heap.size, 4, none⟩) hz).trans (World.cell?_alloc_at _ _ _ _ rfl)
      have f5 : wo.cell? ⟨w.heap.size, 5, none⟩ = some (.int .i64 0) := (World.cell?_of_block (a := ⟨w.heap.size, 5, none⟩) hz).trans (World.cell?_alloc_at _ _ _ _ rfl)
      have f6 : wo.cell? ⟨w.heap.size, 6, none⟩ = some (.bool false) := (World.cell?_of_block (a := ⟨w.heap.size, 6, none⟩) hz).trans (World.cell?_alloc_at _ _ _ _ rfl)
      have HZ := Lib.hid hz
      have HS := Lib.hid hsol
      clear hz hsol
      go_wp2_with fail
      go_roundw
      case rel => exact ⟨p + 1, by go_num, by omega, (Below.heap_setCell _ _ _ _ hne2).trans ((Below.heap_setCell _ _ _ _ hne2).trans ((Below.heap_setCell _ _ _ _ hne2).trans ((Below.heap_setCell _ _ _ _ hne2).trans ((Below.heap_setCell _ _ _ _ hne2).trans ((Below.heap_setCell _ _ _ _ hne2).trans ((Below.heap_setCell _ _ _ _ hne2).trans (HZ.out))))))), (((((((HS.out).set (k := p * 7) (by omega) _).set (k := p * 7 + 1) (by omega) _).set (k := p * 7 + 2) (by omega) _).set (k := p * 7 + 3) (by omega) _).set (k := p * 7 + 4) (by omega) _).set (k := p * 7 + 5) (by omega) _).set (k := p * 7 + 6) (by omega) _, (grown_setg ((grown_setg ((grown_setg ((grown_setg ((grown_setg ((grown_setg ((grown_setg (hbel) _ _)) _ _)) _ _)) _ _)) _ _)) _ _)) _ _)⟩
      case measure => simp [intOf]; omega
    · go_wp2
      go_returns
      exact ⟨rfl, hbel⟩
end Go.Proofs.Ytmnjjmgdeiejkaa
