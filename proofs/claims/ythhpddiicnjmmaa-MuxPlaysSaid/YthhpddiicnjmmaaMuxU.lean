/- The law's turn: the windows of a mux and of the reference's go on alike. -/
import Derived.Test.YthhpddiicnjmmaaMuxR
import Derived.Deep.RegionHeld3
import Derived.Deep.QuietTactic
import Derived.BigQuiet
set_option linter.unusedVariables false
set_option linter.unusedSimpArgs false
set_option maxRecDepth 100000
namespace Go.Proofs.Ythhpddiicnjmmaa
open Go.RowKit

def TurnPost (w0 : World) (gm g gx gw : Nat) (e : Ending) (w' : World) : Prop :=
  e = .returned (.bool true) ∧ ∃ S' z, MPair w0 w' S' gm g gx gw z z ∧ z.FineA
theorem i64_wrap (n : Int) : I64 (IntKind.i64.wrap n) := by rw [IntKind.wrap_i64]; unfold I64; omega
theorem Mx.FineA.setWin {x : Mx} (h : x.FineA) {y : Win} (hy : y.Fine) (ha : I64 y.after) : (x.setWin y).FineA := ⟨h.1.setWin hy, ha⟩
theorem beq_selfB (b : Bool) : (b == b) = true := by cases b <;> rfl
/-- The reference's cells. -/
theorem MPair.cells {w0 w : World} {S : Nat → Prop} {gm g gx gw : Nat} {x y : Mx} (h : MPair w0 w S gm g gx gw x y) : ∃ A c T, Blk w gx [.int .i64 y.tables, .int .i64 y.late, .int .i64 y.at_, .slice A y.reqs.length c, .pointer (some ⟨gw, 0, none⟩)] ∧ IsSl reqRep w T A y.reqs.length y.reqs ∧ ∃ A2 c2, Blk w gw [.int .i64 y.win.n, .int .i64 y.win.state, .int .i64 y.win.id, .int .i64 y.win.table, .int .i64 y.win.mark, .int .i64 y.win.after, .int .i64 y.win.cursor, .bool y.win.last, .slice A2 y.win.rows.length c2] := by
  obtain ⟨T, ⟨A, c, hr⟩, _⟩ := h.ref
  obtain ⟨A2, c2, hw⟩ := hr.win
  exact ⟨A, c, T, hr.blk, hr.reqs, A2, c2, hw.blk⟩
theorem MPair.cellM {w0 w : World} {S : Nat → Prop} {gm g gx gw : Nat} {x y : Mx} (h : MPair w0 w S gm g gx gw x y) : w.cell? ⟨gm, 0, none⟩ = some (.pointer (some ⟨g, 0, none⟩)) := by
  obtain ⟨T, A, c, hm⟩ := h.mux
  exact hm.blk.c5.1

set_option maxHeartbeats 4000000 in
theorem turn_any (w0 w : World) (S : Nat → Prop) (gm g gx gw : Nat) (x : Mx) (h : MPair w0 w S gm g gx gw x x) (hf : x.FineA) (v : Mov) (A : Option Addr) (n c : Nat) (hk : I64 v.kind) (hi : I64 v.id) (ht : I64 v.table) (ha : I64 v.after) (hr : IsSl rowRep w0 (· < w0.heap.size) A n v.rows) (hnc : n ≤ c) (hc : c ≤ maxLen) :
    Calls Try.prog 43 #[.pointer (some ⟨gm, 0, none⟩), .pointer (some ⟨gx, 0, none⟩), .agg #[.int .i64 v.kind, .int .i64 v.id, .int .i64 v.table, .int .i64 v.after, .slice A n c]] w (TurnPost w0 gm g gx gw) := by
  obtain ⟨i0, hin, hz0, hz1, hz2⟩ := info_parts info_row
  obtain ⟨vk, vi, vt, va, vr⟩ := v
  dsimp only at hk hi ht ha hr ⊢
  have HF := Lib.hid hf
  have HLR := Lib.hid hr
  have HI := Lib.hid hi
  obtain ⟨VB, hVB⟩ : ∃ VB, VB = w.heap.size := ⟨_, rfl⟩
  obtain ⟨W, hW⟩ : ∃ W, W = w.alloc (.cells #[.int .i64 vk, .int .i64 vi, .int .i64 vt, .int .i64 va, .slice A n c] 105) := ⟨_, rfl⟩
  have hb : Below w.heap.size w W := by rw [hW]; exact (Below.refl _ _).alloc (Nat.le_refl _) _
  have BV := Lib.hid (show Blk W VB [.int .i64 vk, .int .i64 vi, .int .i64 vt, .int .i64 va, .slice A n c] by rw [hW, hVB]; exact Blk.new rfl rfl)
  have PW := Lib.hid (h.below hb)
  obtain ⟨S1, hS1⟩ : ∃ S1 : Nat → Prop, S1 = fun k => S k ∨ (w.heap.size ≤ k ∧ k < W.heap.size) := ⟨_, rfl⟩
  rw [← hS1] at PW
  have HW := Lib.hid hW
  have H1 := Lib.hid hVB
  have hn : n ≤ maxLen := Nat.le_trans hnc hc
  unfold maxLen at hn
  clear hW hVB hb hS1 h hf hr hi
  obtain ⟨t0, t1, t2, t3, t4, tz⟩ := BV.out.c5
  by_cases h3 : 3 < modOf vk 6
  case pos =>
    have d3 : decide (3 < modOf vk 6) = true := decide_eq_true h3
    clear h3
    go_enter Try.func43, Try.ntmps43
    go_wp2_with (first
      | (go_at_call 19; (with_reducible refine (mod_any vk 6 _ (by omega) (by omega)).mono ?_); rintro e w' ⟨rfl, rfl⟩; rw [← HW.out])
      | fail)
    go_ret
    exact ⟨rfl, _, x, PW.out, HF.out⟩
  case neg =>
    have d3 : decide (3 < modOf vk 6) = false := decide_eq_false h3
    clear h3
    have gm0 := PW.out.cellM
    go_enter Try.func43, Try.ntmps43
    go_upto_region 6 with (first
      | (go_at_call 19; (with_reducible refine (mod_any vk 6 _ (by omega) (by omega)).mono ?_); rintro e w' ⟨rfl, rfl⟩; rw [← HW.out, ← H1.out])
      | (go_at_call 90; (with_reducible refine (muxWindow_any g W).mono ?_); rintro e w1 ⟨rfl, bel1⟩; have B1 := Lib.hid bel1; clear bel1)
      | fail)
    have P1 := Lib.hid (PW.out.below B1.out)
    have BV1 := Lib.hid (BV.out.after B1.out)
    obtain ⟨S2, hS2⟩ : ∃ S2 : Nat → Prop, S2 = fun k => S1 k ∨ (W.heap.size ≤ k ∧ k < w1.heap.size) := ⟨_, rfl⟩
    rw [← hS2] at P1
    clear hS2 t0 t1 t2 t3 t4 tz gm0
    obtain ⟨t0, t1, t2, t3, t4, tz⟩ := BV1.out.c5
    obtain ⟨Aq, cq, Tq, hgx, hrq, A2, c2, hgw⟩ := P1.out.cells
    obtain ⟨g0, g1, g2, g3, g4, gz⟩ := hgx.c5
    obtain ⟨m0, m1, m2, m3, m4, m5, m6, m7, m8, mz⟩ := hgw.c9
    have HRQ := Lib.hid hrq
    have hat : 0 ≤ x.at_ ∧ x.at_ ≤ 1099511627776 := ⟨HF.out.1.a1, HF.out.1.a2⟩
    obtain ⟨hat0, hat1⟩ := hat
    have hnr : x.reqs.length ≤ 64 := may_len HF.out.1.may
    obtain ⟨nr, hnr'⟩ : ∃ nr, nr = x.reqs.length := ⟨_, rfl⟩
    rw [← hnr'] at g3 HRQ hnr
    have HNR := Lib.hid hnr'
    clear hgx hgw hrq hnr'
    by_cases s0 : x.win.state = 0
    case pos =>
      have e0 : (x.win.state == 0) = true := by simpa using s0
      clear s0
      obtain ⟨iq, hiq⟩ : ∃ iq, iq = modOf vi ((nr : Int) + 1) := ⟨_, rfl⟩
      have hir := modOf_range vi ((nr : Int) + 1) (by omega)
      rw [← hiq] at hir
      obtain ⟨hir0, hir1⟩ := hir
      have HIQ := Lib.hid hiq
      have HMQ := Lib.hid (show ∀ w, Calls Try.prog 19 #[.int .i64 vi, .int .i64 ((nr : Int) + 1)] w fun e w' => e = .returned (.int .i64 iq) ∧ w = w' from fun w => by rw [hiq]; exact mod_any vi ((nr : Int) + 1) w (by omega) (by omega))
      have hw1 : IntKind.i64.wrap ((nr : Int) + 1) = (nr : Int) + 1 := IntWalk.i64_in _ (by omega)
      have hw2 : IntKind.i64.wrap (1 + iq) = 1 + iq := IntWalk.i64_in _ (by omega)
      have ht3 := modOf_range vt 3 (by omega)
      obtain ⟨ht30, ht31⟩ := ht3
      clear hiq
      go_upto_region 8 with fail
      refine wp_region_held_drew (S := fun w' => w'.cell? ⟨VB, 1, none⟩ = some (.int .i64 vi) ∧ w'.cell? ⟨VB, 2, none⟩ = some (.int .i64 vt) ∧ w'.cell? ⟨VB, 3, none⟩ = some (.int .i64 va) ∧ w'.cell? ⟨gx, 3, none⟩ = some (.slice Aq nr cq)) (by kernel_rfl) (⟨t1, t2, t3, g3⟩) (fun hHeld => ?_)
      (refine wpAnyH_take (i := 0) (v := ?_) rfl (by kernel_rfl) (by kernel_rfl) (by kernel_rfl) (fun _ _ _ h => h) (Or.inl ⟨by rfl, ?_⟩) hHeld ?_; rotate_left 1; focus (intro w hSw; (try dsimp only at hSw); go_simp; try with_reducible rfl)); (try simp only [Act.put, List.getElem_toArray, List.getElem_cons_zero, List.getElem_cons_succ, List.setIfInBounds_toArray, List.set_cons_zero, List.set_cons_succ])
      (refine wpAnyH_take (i := 1) (v := ?_) rfl (by kernel_rfl) (by kernel_rfl) (by kernel_rfl) (fun _ _ _ h => h) (Or.inl ⟨by rfl, ?_⟩) hHeld ?_; rotate_left 1; focus (intro w hSw; (try dsimp only at hSw); go_simp; try with_reducible rfl)); (try simp only [Act.put, List.getElem_toArray, List.getElem_cons_zero, List.getElem_cons_succ, List.setIfInBounds_toArray, List.set_cons_zero, List.set_cons_succ])
      (refine wpAnyH_take (i := 2) (v := ?_) rfl (by kernel_rfl) (by kernel_rfl) (by kernel_rfl) (fun _ _ _ h => h) (Or.inl ⟨by rfl, ?_⟩) hHeld ?_; rotate_left 1; focus (intro w hSw; (try dsimp only at hSw); go_simp; try with_reducible rfl)); (try simp only [Act.put, List.getElem_toArray, List.getElem_cons_zero, List.getElem_cons_succ, List.setIfInBounds_toArray, List.set_cons_zero, List.set_cons_succ])
      (refine wpAnyH_take (i := 3) (v := ?_) rfl (by kernel_rfl) (by kernel_rfl) (by kernel_rfl) (fun _ _ _ h => h) (Or.inl ⟨by rfl, ?_⟩) hHeld ?_; rotate_left 1; focus (intro w hSw; (try dsimp only at hSw); go_simp; try with_reducible rfl)); (try simp only [Act.put, List.getElem_toArray, List.getElem_cons_zero, List.getElem_cons_succ, List.setIfInBounds_toArray, List.set_cons_zero, List.set_cons_succ])
      (refine wpAnyH_take (i := 4) (v := ?_) rfl (by kernel_rfl) (by kernel_rfl) (by kernel_rfl) (fun _ _ _ h => h) (Or.inl ⟨by rfl, ?_⟩) hHeld ?_; rotate_left 1; focus (intro w hSw; (try dsimp only at hSw); go_simp; try with_reducible rfl)); (try simp only [Act.put, List.getElem_toArray, List.getElem_cons_zero, List.getElem_cons_succ, List.setIfInBounds_toArray, List.set_cons_zero, List.set_cons_succ])
      (refine wpAnyH_take (i := 5) (v := ?_) rfl (by kernel_rfl) (by kernel_rfl) (by kernel_rfl) (fun _ _ _ h => h) (Or.inl ⟨by rfl, ?_⟩) hHeld ?_; rotate_left 1; focus (intro w hSw; (try dsimp only at hSw); go_simp; try with_reducible rfl)); (try simp only [Act.put, List.getElem_toArray, List.getElem_cons_zero, List.getElem_cons_succ, List.setIfInBounds_toArray, List.set_cons_zero, List.set_cons_succ])
      (refine wpAnyH_take (i := 6) (v := ?_) rfl (by kernel_rfl) (by kernel_rfl) (by kernel_rfl) (fun _ _ _ h => h) (Or.inl ⟨by rfl, ?_⟩) hHeld ?_; rotate_left 1; focus (intro w hSw; (try dsimp only at hSw); go_simp; try with_reducible rfl)); (try simp only [Act.put, List.getElem_toArray, List.getElem_cons_zero, List.getElem_cons_succ, List.setIfInBounds_toArray, List.set_cons_zero, List.set_cons_succ])
      (refine wpAnyH_take (i := 7) (v := ?_) rfl (by kernel_rfl) (by kernel_rfl) (by kernel_rfl) (fun _ _ _ h => h) (Or.inl ⟨by rfl, ?_⟩) hHeld ?_; rotate_left 1; focus (intro w hSw; (try dsimp only at hSw); go_simp; try with_reducible rfl)); (try simp only [Act.put, List.getElem_toArray, List.getElem_cons_zero, List.getElem_cons_succ, List.setIfInBounds_toArray, List.set_cons_zero, List.set_cons_succ])
      refine wpAnyH_call (i := 8) (v := .int .i64 iq) rfl (by kernel_rfl) (by kernel_rfl) (by kernel_rfl) (fun _ _ _ h => h) ⟨by rfl, 19, #[.int .i64 vi, .int .i64 ((nr : Int) + 1)], fun w hSw => ⟨by (go_simp; try with_reducible rfl), HMQ.out w⟩⟩ hHeld ?_; (try simp only [Act.put, List.getElem_toArray, List.getElem_cons_zero, List.getElem_cons_succ, List.setIfInBounds_toArray, List.set_cons_zero, List.set_cons_succ])
      (refine wpAnyH_take (i := 9) (v := ?_) rfl (by kernel_rfl) (by kernel_rfl) (by kernel_rfl) (fun _ _ _ h => h) (Or.inl ⟨by rfl, ?_⟩) hHeld ?_; rotate_left 1; focus (intro w hSw; (try dsimp only at hSw); go_simp; try with_reducible rfl)); (try simp only [Act.put, List.getElem_toArray, List.getElem_cons_zero, List.getElem_cons_succ, List.setIfInBounds_toArray, List.set_cons_zero, List.set_cons_succ])
      (refine wpAnyH_take (i := 10) (v := ?_) rfl (by kernel_rfl) (by kernel_rfl) (by kernel_rfl) (fun _ _ _ h => h) (Or.inl ⟨by rfl, ?_⟩) hHeld ?_; rotate_left 1; focus (intro w hSw; (try dsimp only at hSw); go_simp; try with_reducible rfl)); (try simp only [Act.put, List.getElem_toArray, List.getElem_cons_zero, List.getElem_cons_succ, List.setIfInBounds_toArray, List.set_cons_zero, List.set_cons_succ])
      (refine wpAnyH_take (i := 11) (v := ?_) rfl (by kernel_rfl) (by kernel_rfl) (by kernel_rfl) (fun _ _ _ h => h) (Or.inl ⟨by rfl, ?_⟩) hHeld ?_; rotate_left 1; focus (intro w hSw; (try dsimp only at hSw); go_simp; try with_reducible rfl)); (try simp only [Act.put, List.getElem_toArray, List.getElem_cons_zero, List.getElem_cons_succ, List.setIfInBounds_toArray, List.set_cons_zero, List.set_cons_succ])
      refine wpAnyH_call (i := 12) (v := .int .i64 (modOf vt 3)) rfl (by kernel_rfl) (by kernel_rfl) (by kernel_rfl) (fun _ _ _ h => h) ⟨by rfl, 19, #[.int .i64 vt, .int .i64 3], fun w hSw => ⟨by (go_simp; try with_reducible rfl), mod_any vt 3 w (by omega) (by omega)⟩⟩ hHeld ?_; (try simp only [Act.put, List.getElem_toArray, List.getElem_cons_zero, List.getElem_cons_succ, List.setIfInBounds_toArray, List.set_cons_zero, List.set_cons_succ])
      (refine wpAnyH_take (i := 13) (v := ?_) rfl (by kernel_rfl) (by kernel_rfl) (by kernel_rfl) (fun _ _ _ h => h) (Or.inl ⟨by rfl, ?_⟩) hHeld ?_; rotate_left 1; focus (intro w hSw; (try dsimp only at hSw); go_simp; try with_reducible rfl)); (try simp only [Act.put, List.getElem_toArray, List.getElem_cons_zero, List.getElem_cons_succ, List.setIfInBounds_toArray, List.set_cons_zero, List.set_cons_succ])
      (refine wpAnyH_take (i := 14) (v := ?_) rfl (by kernel_rfl) (by kernel_rfl) (by kernel_rfl) (fun _ _ _ h => h) (Or.inl ⟨by rfl, ?_⟩) hHeld ?_; rotate_left 1; focus (intro w hSw; (try dsimp only at hSw); go_simp; try with_reducible rfl)); (try simp only [Act.put, List.getElem_toArray, List.getElem_cons_zero, List.getElem_cons_succ, List.setIfInBounds_toArray, List.set_cons_zero, List.set_cons_succ])
      refine wpAnyH_call (i := 15) (v := .int .i64 (modOf va 9)) rfl (by kernel_rfl) (by kernel_rfl) (by kernel_rfl) (fun _ _ _ h => h) ⟨by rfl, 17, #[.int .i64 va, .int .i64 9], fun w hSw => ⟨by (go_simp; try with_reducible rfl), big_any va 9 w (by omega) (by omega)⟩⟩ hHeld ?_; (try simp only [Act.put, List.getElem_toArray, List.getElem_cons_zero, List.getElem_cons_succ, List.setIfInBounds_toArray, List.set_cons_zero, List.set_cons_succ])
      (refine wpAnyH_take (i := 16) (v := ?_) rfl (by kernel_rfl) (by kernel_rfl) (by kernel_rfl) (fun _ _ _ h => h) (Or.inl ⟨by rfl, ?_⟩) hHeld ?_; rotate_left 1; focus (intro w hSw; (try dsimp only at hSw); go_simp; try with_reducible rfl)); (try simp only [Act.put, List.getElem_toArray, List.getElem_cons_zero, List.getElem_cons_succ, List.setIfInBounds_toArray, List.set_cons_zero, List.set_cons_succ])
      (refine wpAnyH_take (i := 17) (v := ?_) rfl (by kernel_rfl) (by kernel_rfl) (by kernel_rfl) (fun _ _ _ h => h) (Or.inl ⟨by rfl, ?_⟩) hHeld ?_; rotate_left 1; focus (intro w hSw; (try dsimp only at hSw); go_simp; try with_reducible rfl)); (try simp only [Act.put, List.getElem_toArray, List.getElem_cons_zero, List.getElem_cons_succ, List.setIfInBounds_toArray, List.set_cons_zero, List.set_cons_succ])
      (refine wpAnyH_take (i := 18) (v := ?_) rfl (by kernel_rfl) (by kernel_rfl) (by kernel_rfl) (fun _ _ _ h => h) (Or.inl ⟨by rfl, ?_⟩) hHeld ?_; rotate_left 1; focus (intro w hSw; (try dsimp only at hSw); go_simp; try with_reducible rfl)); (try simp only [Act.put, List.getElem_toArray, List.getElem_cons_zero, List.getElem_cons_succ, List.setIfInBounds_toArray, List.set_cons_zero, List.set_cons_succ])
      refine wpAnyH_done (by kernel_rfl) ?_ _
      clear hw1 hw2
      go_upto_region 9 with fail
      obtain ⟨w8, hnw⟩ : ∃ q, q = w1.drew := ⟨_, rfl⟩
      have P8 := Lib.hid (show MPair w0 w8 S2 gm g gx gw x x by rw [hnw]; exact P1.out.drewN 1)
      have BVw8 := Lib.hid (show Blk w8 VB [.int .i64 vk, .int .i64 vi, .int .i64 vt, .int .i64 va, .slice A n c] by rw [hnw]; exact BV1.out)
      rw [← hnw]
      clear hnw t0 t1 t2 t3 t4 tz g0 g1 g2 g3 g4 gz m0 m1 m2 m3 m4 m5 m6 m7 m8 mz
      obtain ⟨t0, t1, t2, t3, t4, tz⟩ := BVw8.out.c5
      obtain ⟨Aw8, cw8, Tw8, hgx, hrq, A2w8, c2w8, hgw⟩ := P8.out.cells
      obtain ⟨g0, g1, g2, g3, g4, gz⟩ := hgx.c5
      obtain ⟨m0, m1, m2, m3, m4, m5, m6, m7, m8, mz⟩ := hgw.c9
      rw [← HNR.out] at g3 hrq
      have HRQw8 := Lib.hid hrq
      clear hgx hgw hrq
      by_cases hle : 1 + iq ≤ (nr : Int)
      case neg =>
        have dl : decide (1 + iq ≤ (nr : Int)) = false := decide_eq_false hle
        clear hle
        have HTI := Lib.hid (show I64 (modOf vt 3) by unfold I64; omega)
        go_upto_region 11 with fail
        obtain ⟨wc, hnw⟩ : ∃ q, q = w8 := ⟨_, rfl⟩
        have PC := Lib.hid (show MPair w0 wc S2 gm g gx gw x x by rw [hnw]; exact P8.out)
        have BVwc := Lib.hid (show Blk wc VB [.int .i64 vk, .int .i64 vi, .int .i64 vt, .int .i64 va, .slice A n c] by rw [hnw]; exact BVw8.out)
        rw [← hnw]
        clear hnw t0 t1 t2 t3 t4 tz g0 g1 g2 g3 g4 gz m0 m1 m2 m3 m4 m5 m6 m7 m8 mz
        obtain ⟨t0, t1, t2, t3, t4, tz⟩ := BVwc.out.c5
        obtain ⟨Awc, cwc, Twc, hgx, hrq, A2wc, c2wc, hgw⟩ := PC.out.cells
        obtain ⟨g0, g1, g2, g3, g4, gz⟩ := hgx.c5
        obtain ⟨m0, m1, m2, m3, m4, m5, m6, m7, m8, mz⟩ := hgw.c9
        rw [← HNR.out] at g3 hrq
        have HRQwc := Lib.hid hrq
        clear hgx hgw hrq
        have PD := Lib.hid (show MPair w0 wc.drew S2 gm g gx gw x x from PC.out.drewN 1)
        have hwa : IntKind.i64.wrap (x.at_ + 1) = x.at_ + 1 := IntWalk.i64_in _ (by omega)
        go_region_held3 (fun w' => w'.cell? ⟨gx, 2, none⟩ = some (.int .i64 x.at_) ∧ w'.cell? ⟨gx, 4, none⟩ = some (.pointer (some ⟨gw, 0, none⟩))) (first | exact PD.out.cellsX | exact P2.out.cellsX | exact P3.out.cellsX | fail)
          (first
            | (go_at_call 98; (with_reducible refine (mp_open_w PD.out (x.at_ + 1) (1 + iq) (modOf vt 3) (modOf va 9)).mono ?_); rintro e w2 ⟨rfl, p2⟩; have P2 := Lib.hid p2; clear p2)
            | (go_at_call 99; (with_reducible refine (mp_open_r P2.out (x.at_ + 1) (1 + iq) (modOf vt 3) (modOf va 9)).mono ?_); rintro e w3 ⟨rfl, Sz, p3⟩; have P3 := Lib.hid p3; clear p3)
            | (go_at_call 99; (with_reducible refine (mp_open_r PD.out (x.at_ + 1) (1 + iq) (modOf vt 3) (modOf va 9)).mono ?_); rintro e w2 ⟨rfl, Sz, p2⟩; have P2 := Lib.hid p2; clear p2)
            | (go_at_call 98; (with_reducible refine (mp_open_w P2.out (x.at_ + 1) (1 + iq) (modOf vt 3) (modOf va 9)).mono ?_); rintro e w3 ⟨rfl, p3⟩; have P3 := Lib.hid p3; clear p3)
            | fail)
        all_goals
          have hbb := beq_selfB (x.win.openOk (x.at_ + 1) (1 + iq) (modOf vt 3) (modOf va 9))
          go_wp2
          go_ret
          exact ⟨rfl, _, _, P3.out, HF.out.setWin (HF.out.1.win.opened _ _ _ _ (by unfold I64; omega) HTI.out) (Win.after_opened HF.out.2 _ _ _ _)⟩
      case pos =>
        have dl : decide (1 + iq ≤ (nr : Int)) = true := decide_eq_true hle
        by_cases h5 : 0 < vi.tmod 5
        case neg =>
          have d5 : decide (0 < vi.tmod 5) = false := decide_eq_false h5
          clear hle h5
          have HTI := Lib.hid (show I64 (modOf vt 3) by unfold I64; omega)
          go_upto_region 11 with fail
          obtain ⟨wc, hnw⟩ : ∃ q, q = w8 := ⟨_, rfl⟩
          have PC := Lib.hid (show MPair w0 wc S2 gm g gx gw x x by rw [hnw]; exact P8.out)
          have BVwc := Lib.hid (show Blk wc VB [.int .i64 vk, .int .i64 vi, .int .i64 vt, .int .i64 va, .slice A n c] by rw [hnw]; exact BVw8.out)
          rw [← hnw]
          clear hnw t0 t1 t2 t3 t4 tz g0 g1 g2 g3 g4 gz m0 m1 m2 m3 m4 m5 m6 m7 m8 mz
          obtain ⟨t0, t1, t2, t3, t4, tz⟩ := BVwc.out.c5
          obtain ⟨Awc, cwc, Twc, hgx, hrq, A2wc, c2wc, hgw⟩ := PC.out.cells
          obtain ⟨g0, g1, g2, g3, g4, gz⟩ := hgx.c5
          obtain ⟨m0, m1, m2, m3, m4, m5, m6, m7, m8, mz⟩ := hgw.c9
          rw [← HNR.out] at g3 hrq
          have HRQwc := Lib.hid hrq
          clear hgx hgw hrq
          have PD := Lib.hid (show MPair w0 wc.drew S2 gm g gx gw x x from PC.out.drewN 1)
          have hwa : IntKind.i64.wrap (x.at_ + 1) = x.at_ + 1 := IntWalk.i64_in _ (by omega)
          go_region_held3 (fun w' => w'.cell? ⟨gx, 2, none⟩ = some (.int .i64 x.at_) ∧ w'.cell? ⟨gx, 4, none⟩ = some (.pointer (some ⟨gw, 0, none⟩))) (first | exact PD.out.cellsX | exact P2.out.cellsX | exact P3.out.cellsX | fail)
            (first
              | (go_at_call 98; (with_reducible refine (mp_open_w PD.out (x.at_ + 1) (1 + iq) (modOf vt 3) (modOf va 9)).mono ?_); rintro e w2 ⟨rfl, p2⟩; have P2 := Lib.hid p2; clear p2)
              | (go_at_call 99; (with_reducible refine (mp_open_r P2.out (x.at_ + 1) (1 + iq) (modOf vt 3) (modOf va 9)).mono ?_); rintro e w3 ⟨rfl, Sz, p3⟩; have P3 := Lib.hid p3; clear p3)
              | (go_at_call 99; (with_reducible refine (mp_open_r PD.out (x.at_ + 1) (1 + iq) (modOf vt 3) (modOf va 9)).mono ?_); rintro e w2 ⟨rfl, Sz, p2⟩; have P2 := Lib.hid p2; clear p2)
              | (go_at_call 98; (with_reducible refine (mp_open_w P2.out (x.at_ + 1) (1 + iq) (modOf vt 3) (modOf va 9)).mono ?_); rintro e w3 ⟨rfl, p3⟩; have P3 := Lib.hid p3; clear p3)
              | fail)
          all_goals
            have hbb := beq_selfB (x.win.openOk (x.at_ + 1) (1 + iq) (modOf vt 3) (modOf va 9))
            go_wp2
            go_ret
            exact ⟨rfl, _, _, P3.out, HF.out.setWin (HF.out.1.win.opened _ _ _ _ (by unfold I64; omega) HTI.out) (Win.after_opened HF.out.2 _ _ _ _)⟩
        case pos =>
          have d5 : decide (0 < vi.tmod 5) = true := decide_eq_true h5
          clear h5
          obtain ⟨j, rfl⟩ := Int.eq_ofNat_of_zero_le hir0
          have hj : IntKind.i64.wrap (1 + (j : Int) - 1) = (j : Int) := by rw [show 1 + (j : Int) - 1 = (j : Int) by omega]; exact IntWalk.i64_in _ (by omega)
          obtain ⟨b0, off, q, rfl, hbT, hx, hwf, k0, k1, k2, k3, k4, k5, k6⟩ := HRQw8.out.req (w' := w8) (k := j) (by omega) (fun _ _ => rfl)
          have HTI := Lib.hid (show I64 q.table from hwf.2.1)
          have hjn : (j : Int) < (nr : Int) := by omega
          have hj0 : (0 : Int) ≤ (j : Int) := by omega
          clear hx hwf hle
          go_upto_region 10 with fail
          go_quiet (fail)
          go_upto_region 11 with fail
          obtain ⟨wc, hnw⟩ : ∃ q, q = (w8.drewN nq) := ⟨_, rfl⟩
          have PC := Lib.hid (show MPair w0 wc S2 gm g gx gw x x by rw [hnw]; exact P8.out.drewN nq)
          have BVwc := Lib.hid (show Blk wc VB [.int .i64 vk, .int .i64 vi, .int .i64 vt, .int .i64 va, .slice A n c] by rw [hnw]; exact BVw8.out)
          rw [← hnw]
          clear hnw t0 t1 t2 t3 t4 tz g0 g1 g2 g3 g4 gz m0 m1 m2 m3 m4 m5 m6 m7 m8 mz
          obtain ⟨t0, t1, t2, t3, t4, tz⟩ := BVwc.out.c5
          obtain ⟨Awc, cwc, Twc, hgx, hrq, A2wc, c2wc, hgw⟩ := PC.out.cells
          obtain ⟨g0, g1, g2, g3, g4, gz⟩ := hgx.c5
          obtain ⟨m0, m1, m2, m3, m4, m5, m6, m7, m8, mz⟩ := hgw.c9
          rw [← HNR.out] at g3 hrq
          have HRQwc := Lib.hid hrq
          clear hgx hgw hrq
          have PD := Lib.hid (show MPair w0 wc.drew S2 gm g gx gw x x from PC.out.drewN 1)
          have hwa : IntKind.i64.wrap (x.at_ + 1) = x.at_ + 1 := IntWalk.i64_in _ (by omega)
          go_region_held3 (fun w' => w'.cell? ⟨gx, 2, none⟩ = some (.int .i64 x.at_) ∧ w'.cell? ⟨gx, 4, none⟩ = some (.pointer (some ⟨gw, 0, none⟩))) (first | exact PD.out.cellsX | exact P2.out.cellsX | exact P3.out.cellsX | fail)
            (first
              | (go_at_call 98; (with_reducible refine (mp_open_w PD.out (x.at_ + 1) (1 + (j : Int)) q.table q.cursor).mono ?_); rintro e w2 ⟨rfl, p2⟩; have P2 := Lib.hid p2; clear p2)
              | (go_at_call 99; (with_reducible refine (mp_open_r P2.out (x.at_ + 1) (1 + (j : Int)) q.table q.cursor).mono ?_); rintro e w3 ⟨rfl, Sz, p3⟩; have P3 := Lib.hid p3; clear p3)
              | (go_at_call 99; (with_reducible refine (mp_open_r PD.out (x.at_ + 1) (1 + (j : Int)) q.table q.cursor).mono ?_); rintro e w2 ⟨rfl, Sz, p2⟩; have P2 := Lib.hid p2; clear p2)
              | (go_at_call 98; (with_reducible refine (mp_open_w P2.out (x.at_ + 1) (1 + (j : Int)) q.table q.cursor).mono ?_); rintro e w3 ⟨rfl, p3⟩; have P3 := Lib.hid p3; clear p3)
              | fail)
          all_goals
            have hbb := beq_selfB (x.win.openOk (x.at_ + 1) (1 + (j : Int)) q.table q.cursor)
            go_wp2
            go_ret
            exact ⟨rfl, _, _, P3.out, HF.out.setWin (HF.out.1.win.opened _ _ _ _ (by unfold I64; omega) HTI.out) (Win.after_opened HF.out.2 _ _ _ _)⟩
    case neg =>
      have e0 : (x.win.state == 0) = false := by simpa using s0
      clear s0
      by_cases s1 : x.win.state = 1
      case pos =>
        have e1 : (x.win.state == 1) = true := by simpa using s1
        clear s1
        go_upto_region 16 with fail
        obtain ⟨xn, hxn⟩ := Int.eq_ofNat_of_zero_le (show 0 ≤ x.win.n by have := HF.out.1.win.n1; omega)
        have hxn64 : xn ≤ 64 := by have := HF.out.1.win.n2; omega
        have HXN := Lib.hid hxn
        clear hxn
        go_loopw [11, 12, 13] (fun rv kv iv wr => ∃ (p : Nat) (kk : Int) (l : List Row), iv = .int .i64 p ∧ kv = .int .i64 kk ∧ p ≤ n ∧ p ≤ xn ∧ l.length = p ∧ Own rowRep wr w1.heap.size (fun _ => False) 80 rv l ∧ Below w1.heap.size w1 wr ∧ (∀ r ∈ l, I64 r.key)) (fun _ _ iv _ => n - (intOf iv).toNat)
        case atStart => exact ⟨0, x.win.after, [], rfl, rfl, Nat.zero_le _, Nat.zero_le _, rfl, Own.nil _ _ _ (fun _ h => h.elim) _ _, Below.refl _ _, fun r hr => by cases hr⟩
        case round =>
          obtain ⟨wo, rfl⟩ : ∃ q : World, q = wr := ⟨_, rfl⟩
          obtain ⟨p, kk, l, rfl, rfl, hp, hpx, hlp, hown, hbel, hall⟩ := hrel
          obtain ⟨A7, c7, hv7, _, _, _⟩ := hown.isSlR
          subst hv7
          rw [hlp] at hown ⊢
          have OW := Lib.hid hown
          have HLP := Lib.hid hlp
          have BE := Lib.hid hbel
          have HAL := Lib.hid hall
          have hws := hbel.size
          have PO := Lib.hid (P1.out.below hbel)
          have BVo := Lib.hid (BV1.out.after hbel)
          clear hown hlp hbel hall t0 t1 t2 t3 t4 tz g0 g1 g2 g3 g4 gz m0 m1 m2 m3 m4 m5 m6 m7 m8 mz
          obtain ⟨t0, t1, t2, t3, t4, tz⟩ := BVo.out.c5
          obtain ⟨Ao, co, To, hgx, hrq, A2o, c2o, hgw⟩ := PO.out.cells
          obtain ⟨g0, g1, g2, g3, g4, gz⟩ := hgx.c5
          obtain ⟨m0, m1, m2, m3, m4, m5, m6, m7, m8, mz⟩ := hgw.c9
          rw [HXN.out] at m0
          clear hgx hgw hrq g3
          by_cases hlt : p < n
          case neg =>
            have hd : decide ((p : Int) < (n : Int)) = false := decide_eq_false (by omega)
            have hdn : decide (p < n) = false := decide_eq_false hlt
            clear hlt
            go_upto_region 20 with fail
            obtain ⟨A9, c9, he9, _, _, sl9⟩ := OW.out.isSlR
            injection he9 with e1' e2' e3'
            subst e1' e3'
            clear e2'
            rw [HLP.out] at sl9
            obtain ⟨U, hU⟩ : ∃ U : Nat → Prop, U = fun b => w1.heap.size ≤ b ∧ b < wo.heap.size := ⟨_, rfl⟩
            rw [← hU] at sl9
            obtain ⟨S9, hS9⟩ : ∃ S9 : Nat → Prop, S9 = fun k => S2 k ∨ (w1.heap.size ≤ k ∧ k < wo.heap.size) := ⟨_, rfl⟩
            rw [← hS9] at PO
            have HU1 := Lib.hid (show ∀ k, U k → S9 k ∧ k ≠ gw by rw [hU, hS9]; exact fun k hk => ⟨.inr hk, fun e => by have := P1.out.hS gw P1.out.inW; omega⟩)
            have HU2 := Lib.hid (show ∀ k, U k → S9 k from fun k hk => (HU1.out k hk).1)
            have hpm : p ≤ maxLen := by simp only [maxLen]; omega
            have HX64 := Lib.hid (show x.win.n ≤ 64 by rw [HXN.out]; omega)
            have SLD := Lib.hid (show IsSl rowRep wo.drew U A7 p l from sl9.keep (fun _ _ => rfl))
            have PD := Lib.hid (show MPair w0 wo.drew S9 gm g gx gw x x from PO.out.drewN 1)
            clear sl9 hU hS9
            go_region_held3 (fun w' => w'.cell? ⟨gx, 2, none⟩ = some (.int .i64 x.at_) ∧ w'.cell? ⟨gx, 4, none⟩ = some (.pointer (some ⟨gw, 0, none⟩))) (first | exact PD.out.cellsX | exact P2.out.cellsX | exact P3.out.cellsX | fail)
              (first
                | (go_at_call 100; (with_reducible refine (mp_fill_w PD.out U A7 p c7 l HU2.out SLD.out HX64.out hpm).mono ?_); rintro e w2 ⟨rfl, p2, sl2⟩; have P2 := Lib.hid p2; have SL2 := Lib.hid sl2; clear p2 sl2)
                | (go_at_call 101; (with_reducible refine (mp_fill_r P2.out U A7 p c7 l HU1.out SL2.out HX64.out hpm).mono ?_); rintro e w3 ⟨rfl, Sz, hz, p3, sl3⟩; have P3 := Lib.hid p3; clear p3 sl3)
                | (go_at_call 101; (with_reducible refine (mp_fill_r PD.out U A7 p c7 l HU1.out SLD.out HX64.out hpm).mono ?_); rintro e w2 ⟨rfl, Sz, hz, p2, sl2⟩; have P2 := Lib.hid p2; have SL2 := Lib.hid sl2; have HZ := Lib.hid hz; clear p2 sl2 hz)
                | (go_at_call 100; (with_reducible refine (mp_fill_w P2.out U A7 p c7 l HZ.out SL2.out HX64.out hpm).mono ?_); rintro e w3 ⟨rfl, p3, sl3⟩; have P3 := Lib.hid p3; clear p3 sl3)
                | fail)
            all_goals
              have hbb := beq_selfB (x.win.fillOk l)
              go_wp2
              go_ret
              exact ⟨rfl, _, _, P3.out, HF.out.setWin (HF.out.1.win.filled l HF.out.2 HAL.out) (Win.after_filled HF.out.2 l)⟩
          case pos =>
            have hd : decide ((p : Int) < (n : Int)) = true := decide_eq_true (by omega)
            have hpi : (p : Int) < (n : Int) := by omega
            have hp0 : (0 : Int) ≤ (p : Int) := by omega
            by_cases hlx : p < xn
            case neg =>
              have hd2 : decide ((p : Int) < (xn : Int)) = false := decide_eq_false (by omega)
              have hd2n : decide (p < xn) = false := decide_eq_false hlx
              have hdn : decide (p < n) = true := decide_eq_true hlt
              clear hlx hlt
              go_upto_region 20 with fail
              obtain ⟨A9, c9, he9, _, _, sl9⟩ := OW.out.isSlR
              injection he9 with e1' e2' e3'
              subst e1' e3'
              clear e2'
              rw [HLP.out] at sl9
              obtain ⟨U, hU⟩ : ∃ U : Nat → Prop, U = fun b => w1.heap.size ≤ b ∧ b < wo.heap.size := ⟨_, rfl⟩
              rw [← hU] at sl9
              obtain ⟨S9, hS9⟩ : ∃ S9 : Nat → Prop, S9 = fun k => S2 k ∨ (w1.heap.size ≤ k ∧ k < wo.heap.size) := ⟨_, rfl⟩
              rw [← hS9] at PO
              have HU1 := Lib.hid (show ∀ k, U k → S9 k ∧ k ≠ gw by rw [hU, hS9]; exact fun k hk => ⟨.inr hk, fun e => by have := P1.out.hS gw P1.out.inW; omega⟩)
              have HU2 := Lib.hid (show ∀ k, U k → S9 k from fun k hk => (HU1.out k hk).1)
              have hpm : p ≤ maxLen := by simp only [maxLen]; omega
              have HX64 := Lib.hid (show x.win.n ≤ 64 by rw [HXN.out]; omega)
              have SLD := Lib.hid (show IsSl rowRep wo.drew U A7 p l from sl9.keep (fun _ _ => rfl))
              have PD := Lib.hid (show MPair w0 wo.drew S9 gm g gx gw x x from PO.out.drewN 1)
              clear sl9 hU hS9
              go_region_held3 (fun w' => w'.cell? ⟨gx, 2, none⟩ = some (.int .i64 x.at_) ∧ w'.cell? ⟨gx, 4, none⟩ = some (.pointer (some ⟨gw, 0, none⟩))) (first | exact PD.out.cellsX | exact P2.out.cellsX | exact P3.out.cellsX | fail)
                (first
                  | (go_at_call 100; (with_reducible refine (mp_fill_w PD.out U A7 p c7 l HU2.out SLD.out HX64.out hpm).mono ?_); rintro e w2 ⟨rfl, p2, sl2⟩; have P2 := Lib.hid p2; have SL2 := Lib.hid sl2; clear p2 sl2)
                  | (go_at_call 101; (with_reducible refine (mp_fill_r P2.out U A7 p c7 l HU1.out SL2.out HX64.out hpm).mono ?_); rintro e w3 ⟨rfl, Sz, hz, p3, sl3⟩; have P3 := Lib.hid p3; clear p3 sl3)
                  | (go_at_call 101; (with_reducible refine (mp_fill_r PD.out U A7 p c7 l HU1.out SLD.out HX64.out hpm).mono ?_); rintro e w2 ⟨rfl, Sz, hz, p2, sl2⟩; have P2 := Lib.hid p2; have SL2 := Lib.hid sl2; have HZ := Lib.hid hz; clear p2 sl2 hz)
                  | (go_at_call 100; (with_reducible refine (mp_fill_w P2.out U A7 p c7 l HZ.out SL2.out HX64.out hpm).mono ?_); rintro e w3 ⟨rfl, p3, sl3⟩; have P3 := Lib.hid p3; clear p3 sl3)
                  | fail)
              all_goals
                have hbb := beq_selfB (x.win.fillOk l)
                go_wp2
                go_ret
                exact ⟨rfl, _, _, P3.out, HF.out.setWin (HF.out.1.win.filled l HF.out.2 HAL.out) (Win.after_filled HF.out.2 l)⟩
            case pos =>
              have hd2 : decide ((p : Int) < (xn : Int)) = true := decide_eq_true (by omega)
              have hd2n : decide (p < xn) = true := decide_eq_true hlx
              have hdn : decide (p < n) = true := decide_eq_true hlt
              obtain ⟨b0, off, y, cs, rfl, hb0, hx, ⟨rfl, hwy⟩, hcs⟩ := HLR.out.at_ hlt
              have c0 := (PO.out.bel.cell (p := ⟨b0, _, none⟩) hb0).trans (hcs 0 _ rfl)
              have c1 := (PO.out.bel.cell (p := ⟨b0, _, none⟩) hb0).trans (hcs 1 _ rfl)
              rw [show off + p * rowRep.size + 0 = off + p * 2 from rfl] at c0
              rw [show off + p * rowRep.size + 1 = off + p * 2 + 1 from rfl] at c1
              obtain ⟨yk, yv⟩ := y
              dsimp only at c0 c1
              have hvs : yv.size ≤ maxLen := hwy.2
              have HVS := Lib.hid hvs
              have hm3 := modOf_range yk 3 (by omega)
              obtain ⟨hm30, hm31⟩ := hm3
              clear hx hcs hwy hvs
              go_upto_region 19 with (first
                | (go_at_call 17; (with_reducible refine (big_any yk 3 _ (by omega) (by omega)).mono ?_); rintro e w' ⟨rfl, rfl⟩)
                | fail)
              obtain ⟨k2, hk2⟩ : ∃ q, q = wrap64 (kk + (1 + modOf yk 3)) := ⟨_, rfl⟩
              have HK2 := Lib.hid (show I64 k2 by rw [hk2]; unfold I64 wrap64; omega)
              obtain ⟨cv, hcv⟩ : ∃ q, q = yv.extract 0 (min yv.size 32) := ⟨_, rfl⟩
              have HCV := Lib.hid hcv
              have HCS := Lib.hid (show cv.size ≤ maxLen by rw [hcv]; simp only [ByteArray.size_extract, maxLen]; omega)
              rw [← hk2]
              clear hk2 hcv hm30 hm31
              go_wp2_with (first
                | (go_at_call 59; (with_reducible refine (cut_any yv 32 32 rfl _ HVS.out).mono ?_); rintro e w' ⟨rfl, rfl⟩; rw [← HCV.out])
                | (at_builtin; refine wpList_append_Own _ rfl _ _ 81 rfl w1.heap.size 80 i0 _ 24 Try.underlying81 hin hz0 hz1 hz2 rfl (R := rowRep) (S := fun _ => False) (l := l) (l' := [⟨k2, cv⟩]) (.slice A7 p c7) rfl (OW.out.alloc _) _ 1 1 rfl (Src.new (cs := (⟨k2, cv⟩ : Row).cells) ⟨rfl, HK2.out, HCS.out⟩) (by rw [HLP.out]; simp only [maxLen]; omega) (by rw [HLP.out]; omega) (by omega) (by simp; omega) ?_; intro v8 w8 own8 gr8 at8; obtain ⟨A8, c8, rfl⟩ := own8.form; obtain ⟨m8', hm8⟩ : ∃ q, q = (l ++ [(⟨k2, cv⟩ : Row)]).length := ⟨_, rfl⟩; rw [← hm8] at own8 ⊢; clear hm8; have O8 := Lib.hid own8; have B8 := Lib.hid ((BE.out.alloc hws (.cells #[.int .i64 k2, .string cv] 80)).grown gr8 (Nat.le_trans hws (by simp)) (fun k hk => OW.out.row_ge hk)); clear own8 gr8 at8)
                | fail)
              go_roundw
              case rel => exact ⟨p + 1, k2, l ++ [⟨k2, cv⟩], by go_num, rfl, by omega, by omega, by rw [List.length_append, HLP.out]; rfl, O8.out, B8.out, fun r hr => (List.mem_append.1 hr).elim (HAL.out r) (fun e => by rw [List.mem_singleton.1 e]; exact HK2.out)⟩
              case measure => simp [intOf]; omega
      case neg =>
        have e1 : (x.win.state == 1) = false := by simpa using s1
        clear s1
        by_cases s2 : x.win.state = 2
        case pos =>
          have e2 : (x.win.state == 2) = true := by simpa using s2
          clear s2
          go_upto_region 22 with fail
          obtain ⟨wc, hnw⟩ : ∃ q, q = w1 := ⟨_, rfl⟩
          have PC := Lib.hid (show MPair w0 wc S2 gm g gx gw x x by rw [hnw]; exact P1.out)
          have BVwc := Lib.hid (show Blk wc VB [.int .i64 vk, .int .i64 vi, .int .i64 vt, .int .i64 va, .slice A n c] by rw [hnw]; exact BV1.out)
          rw [← hnw]
          clear hnw t0 t1 t2 t3 t4 tz g0 g1 g2 g3 g4 gz m0 m1 m2 m3 m4 m5 m6 m7 m8 mz
          obtain ⟨t0, t1, t2, t3, t4, tz⟩ := BVwc.out.c5
          obtain ⟨Awc, cwc, Twc, hgx, hrq, A2wc, c2wc, hgw⟩ := PC.out.cells
          obtain ⟨g0, g1, g2, g3, g4, gz⟩ := hgx.c5
          obtain ⟨m0, m1, m2, m3, m4, m5, m6, m7, m8, mz⟩ := hgw.c9
          rw [← HNR.out] at g3 hrq
          have HRQwc := Lib.hid hrq
          clear hgx hgw hrq
          have PD := Lib.hid (show MPair w0 wc.drew S2 gm g gx gw x x from PC.out.drewN 1)
          go_region_held3 (fun w' => w'.cell? ⟨gx, 2, none⟩ = some (.int .i64 x.at_) ∧ w'.cell? ⟨gx, 4, none⟩ = some (.pointer (some ⟨gw, 0, none⟩))) (first | exact PD.out.cellsX | exact P2.out.cellsX | exact P3.out.cellsX | fail)
            (first
              | (go_at_call 102; (with_reducible refine (mp_shut_w PD.out).mono ?_); rintro e w2 ⟨rfl, p2⟩; have P2 := Lib.hid p2; clear p2)
              | (go_at_call 103; (with_reducible refine (mp_shut_r P2.out).mono ?_); rintro e w3 ⟨rfl, Sz, p3⟩; have P3 := Lib.hid p3; clear p3)
              | (go_at_call 103; (with_reducible refine (mp_shut_r PD.out).mono ?_); rintro e w2 ⟨rfl, Sz, p2⟩; have P2 := Lib.hid p2; clear p2)
              | (go_at_call 102; (with_reducible refine (mp_shut_w P2.out).mono ?_); rintro e w3 ⟨rfl, p3⟩; have P3 := Lib.hid p3; clear p3)
              | fail)
          all_goals
            have hbb := beq_selfB (decide (x.win.state = 2))
            go_wp2
            go_ret
            exact ⟨rfl, _, _, P3.out, HF.out.setWin HF.out.1.win.shut (Win.after_shut HF.out.2)⟩
        case neg =>
          have e2 : (x.win.state == 2) = false := by simpa using s2
          clear s2
          go_wp2
          go_ret
          exact ⟨rfl, _, x, P1.out, HF.out⟩
end Go.Proofs.Ythhpddiicnjmmaa
