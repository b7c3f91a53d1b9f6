/- The walk of the law MuxCarries. Written by gen_carw.py. -/
import Derived.Test.YthhpddiicnjmmaaCarU
import Derived.Test.YthhpddiicnjmmaaCfg
import Derived.Deep.RegionHeld3
import Derived.Deep.QuietTactic
import Derived.BigQuiet
set_option linter.unusedVariables false
set_option linter.unusedSimpArgs false
set_option maxRecDepth 100000
namespace Go.Proofs.Ythhpddiicnjmmaa
open Go.RowKit

theorem info_int2 : (Try.prog.info? 3).map (fun i => (i.zero, i.size, i.bytes)) = some (some (.int .i64 0), 1, 8) := by kernel_rfl
theorem made_ints (n : Nat) : (madeCells #[Value.int .i64 0] n).toList = ints (List.replicate n 0) := by
  have h := madeCells_list (z := #[Value.int .i64 0]) (s := 1) (n := n) rfl (by omega)
  rw [Nat.mul_one] at h
  rw [h]
  clear h
  induction n with
  | zero => rfl
  | succ n ih => rw [List.replicate_succ, List.flatten_cons, ih, List.replicate_succ]; rfl
theorem OwnT.slT {w : World} {base : Nat} {v : Value} {l : List Txn} (h : OwnT w base v l) : ∃ A c, v = .slice A l.length c ∧ l.length ≤ c ∧ c ≤ maxLen ∧ IsSl txnRep w (fun b => base ≤ b ∧ b < w.heap.size) A l.length l := by
  obtain ⟨S, hS, h⟩ := h
  exact h.isSl (fun b hb => ⟨hS b hb, h.1 b hb⟩) (fun g h1 h2 => ⟨h1, h2⟩)
/-- All that is known of the transactions. -/
theorem playTxns_facts (n : Nat) (hn : 0 < n) (hn8 : n ≤ 8) (L : List Txn) (i : Nat) (t : Txn) (h : (playTxns n 40 L)[i]? = some t) :
    mayTxn t = true ∧ t.lsn = (i : Int) + 1 ∧ (t.kind ≠ 1 → t.changes = [] ∧ t.signals = []) ∧ ∀ c ∈ t.changes, 0 ≤ c.table ∧ c.table < (n : Int) := by
  unfold playTxns at h
  rw [playFrom_at, Nat.zero_add] at h
  cases e : (L.take 40)[i]? with
  | none => rw [e] at h; cases h
  | some x =>
    rw [e] at h
    obtain rfl := Option.some.inj h
    have hi : i < 40 := by
      have := (List.getElem?_eq_some_iff.1 e).1
      rw [List.length_take] at this
      omega
    exact playTxn_facts n i x hn hn8 (by omega)
theorem playTxns_len (n : Nat) (L : List Txn) : (playTxns n 40 L).length ≤ 40 := by
  rcases Nat.lt_or_ge 40 (playTxns n 40 L).length with h | h
  · have h2 : (playTxns n 40 L)[40]? = some ((playTxns n 40 L)[40]'h) := List.getElem?_eq_getElem h
    unfold playTxns at h2
    rw [playFrom_at, List.getElem?_eq_none (by rw [List.length_take]; omega)] at h2
    cases h2
  · exact h

set_option maxHeartbeats 16000000 in
theorem muxCarries_walk (w : World) (c : Cfg) (cs : Array Value) (hcs : cfgRep.rel w (· < w.heap.size) c cs.toList) (A : Option Addr) (n cc : Nat) (L : List Txn) (h : IsSl txnRep w (· < w.heap.size) A n L) (h1 : n ≤ cc) (h2 : cc ≤ maxLen) :
    Calls Try.prog 7 #[.agg cs, .slice A n cc] w fun e w' => e = .returned (.bool true) ∧ Below w.heap.size w w' := by
  obtain rfl : cs = #[.int .i64 c.tables, .int .i64 c.late, .int .i64 c.size, .int .i64 c.queue, .int .i64 c.chunk, .int .i64 c.batch, .int .i64 c.base, .int .i64 c.cap, .int .i64 c.jitter, .int .i64 c.every] := by
    have := hcs.1
    cases cs
    simp only [Cfg.cells] at this
    exact congrArg Array.mk this
  have HH := Lib.hid h
  have HP := Lib.hid (cfg_new c)
  have HPC := Lib.hid (playConfig_any c)
  obtain ⟨d, hd⟩ : ∃ d, d = playCfg c := ⟨_, rfl⟩
  rw [← hd] at HP HPC
  have hd1 := HP.out.2.1
  have hd2 := HP.out.2.2
  obtain ⟨dt, hdt⟩ := Int.eq_ofNat_of_zero_le (show 0 ≤ d.tables by omega)
  have hdt4 : dt ≤ 4 := by omega
  have hdt1 : 1 ≤ dt := by omega
  have HF0 := Lib.hid (fine_new HP.out.1)
  have hl0 := HF0.out.l1
  have hl9 := late_small HF0.out
  obtain ⟨lt, hlt⟩ := Int.eq_ofNat_of_zero_le (show 0 ≤ d.late from hl0)
  have hlt9 : lt < 256 := by have : d.late < 256 := hl9; omega
  have HDT := Lib.hid hdt
  have HLT := Lib.hid hlt
  obtain ⟨i0, hi, hz0, hz1, hz2⟩ := info_parts info_int2
  have hmk : ∀ W : World, (Instr.makeSlice 58 (.int .i64 d.tables) (.int .i64 d.tables)).run Try.prog W = .ok (.slice (some ⟨W.heap.size, 0, none⟩) dt dt) (W.alloc (.cells (madeCells (Value.int .i64 0).cells (dt * 1)) 3)) := fun W => run_make_own 58 3 i0 (.int .i64 0) 1 8 Try.underlying58 hi hz0 hz1 hz2 .i64 .i64 dt d.tables hdt (by omega) (by omega) W
  clear h hcs hd hd1 hd2 hdt hlt hl0 hl9
  obtain ⟨CB, hCB⟩ : ∃ CB, CB = w.heap.size := ⟨_, rfl⟩
  have H1 := Lib.hid hCB
  have hCBw : w.heap.size ≤ CB := by rw [hCB]; exact Nat.le_refl _
  obtain ⟨W, hW⟩ : ∃ W, W = w.alloc (.cells #[.int .i64 c.tables, .int .i64 c.late, .int .i64 c.size, .int .i64 c.queue, .int .i64 c.chunk, .int .i64 c.batch, .int .i64 c.base, .int .i64 c.cap, .int .i64 c.jitter, .int .i64 c.every] 49) := ⟨_, rfl⟩
  have HW := Lib.hid hW
  have BC := Lib.hid (show Blk W CB [.int .i64 c.tables, .int .i64 c.late, .int .i64 c.size, .int .i64 c.queue, .int .i64 c.chunk, .int .i64 c.batch, .int .i64 c.base, .int .i64 c.cap, .int .i64 c.jitter, .int .i64 c.every] by rw [hW, hCB]; exact Blk.new rfl rfl)
  have BW := Lib.hid (show Below w.heap.size w W by rw [hW]; exact (Below.refl _ _).alloc (Nat.le_refl _) _)
  clear hW hCB
  go_enter Try.func7, Try.ntmps7
  go_wp2_with (first
    | (go_at_call 24; rw [← HW.out, ← H1.out]; (with_reducible refine (HPC.out W).mono ?_); rintro e w1 ⟨rfl, bel1⟩; have B1 := Lib.hid (BW.out.trans (bel1.mono BW.out.size)); have BC1 := Lib.hid (BC.out.after bel1); have b0 := BC1.out.1 0 _ rfl; have b1 := BC1.out.1 1 _ rfl; have b2 := BC1.out.1 2 _ rfl; have b3 := BC1.out.1 3 _ rfl; have b4 := BC1.out.1 4 _ rfl; have b5 := BC1.out.1 5 _ rfl; have b6 := BC1.out.1 6 _ rfl; have b7 := BC1.out.1 7 _ rfl; have b8 := BC1.out.1 8 _ rfl; have b9 := BC1.out.1 9 _ rfl; have bz := BC1.out.2.1; clear bel1)
    | (go_at_call 25; generalize hw2 : World.setCell _ ⟨CB, 9, none⟩ _ = w2; have BC2 := Lib.hid (show Blk w2 CB [.int .i64 d.tables, .int .i64 d.late, .int .i64 d.size, .int .i64 d.queue, .int .i64 d.chunk, .int .i64 d.batch, .int .i64 d.base, .int .i64 d.cap, .int .i64 d.jitter, .int .i64 d.every] by rw [← hw2]; exact ((((((((((BC1.out.put (j := 0) (by simp) _ rfl).put (j := 1) (by simp) _ rfl).put (j := 2) (by simp) _ rfl).put (j := 3) (by simp) _ rfl).put (j := 4) (by simp) _ rfl).put (j := 5) (by simp) _ rfl).put (j := 6) (by simp) _ rfl).put (j := 7) (by simp) _ rfl).put (j := 8) (by simp) _ rfl).put (j := 9) (by simp) _ rfl)); have B2 := Lib.hid (show Below w.heap.size w w2 by rw [← hw2]; exact (((((((((B1.out.setCell hCBw _).setCell hCBw _).setCell hCBw _).setCell hCBw _).setCell hCBw _).setCell hCBw _).setCell hCBw _).setCell hCBw _).setCell hCBw _).setCell hCBw _); clear hw2; (with_reducible refine (muxNew_any d.tables d.late d.chunk 0 none 0 0 [] w2 IsSl.nil (by omega)).mono ?_); rintro e w3 hp3; rcases hp3 with ⟨_, gm, g, rfl, m3, bel3⟩ | ⟨h0, _⟩; rotate_left 1; (exact absurd HP.out.1 (by rw [h0]; decide)); have M3 := Lib.hid m3; have D3 := Lib.hid bel3; have BC3 := Lib.hid (BC2.out.after bel3); clear m3 bel3 b0 b1 b2 b3 b4 b5 b6 b7 b8 b9 bz; have b0 := BC3.out.1 0 _ rfl)
    | (go_at_call 26; (with_reducible refine (playTxns_any A n cc L dt d.tables HDT.out (by omega) (by omega) 40 40 rfl (by omega) w3 ((HH.out.below (B2.out.trans (D3.out.mono B2.out.size))).more (Nat.le_trans B2.out.size D3.out.size))).mono ?_); rintro e w4 ⟨v4, rfl, own4, bel4⟩; obtain ⟨At, ct, rfl, lt4, mt4, sl4⟩ := own4.slT; obtain ⟨T, hT⟩ : ∃ T, T = playTxns dt 40 L := ⟨_, rfl⟩; rw [← hT] at sl4 lt4 ⊢; obtain ⟨nt, hnt⟩ : ∃ nt, nt = T.length := ⟨_, rfl⟩; rw [← hnt] at sl4 lt4 ⊢; have HT := Lib.hid hT; have HNT := Lib.hid hnt; have SL4 := Lib.hid sl4; have HCT := Lib.hid (And.intro lt4 mt4); have B4 := Lib.hid bel4; have BC4 := Lib.hid (BC3.out.after bel4); clear own4 bel4 sl4 lt4 mt4 hT hnt b0; have b0 := BC4.out.1 0 _ rfl)
    | (go_at_call 27; have KR := refnewrep_any dt hdt1 (by omega) w4; rw [← HDT.out] at KR; (with_reducible refine KR.mono ?_); clear KR; rintro e w5 ⟨gs, bt, rfl, rp5, hgs5, hbt5, bel5⟩; have R5 := Lib.hid rp5; have HG5 := Lib.hid (And.intro hgs5 hbt5); have B5 := Lib.hid bel5; have BC5 := Lib.hid (BC4.out.after bel5); clear rp5 hgs5 hbt5 bel5 b0; have b0 := BC5.out.1 0 _ rfl)
    | fail)
  obtain ⟨ga, hga⟩ : ∃ ga, ga = w5.heap.size := ⟨_, rfl⟩
  obtain ⟨w6, hw6⟩ : ∃ w6, w6 = w5.alloc (.cells (madeCells #[Value.int .i64 0] dt) 3) := ⟨_, rfl⟩
  have B6 := Lib.hid (show Below w5.heap.size w5 w6 by rw [hw6]; exact (Below.refl _ _).alloc (Nat.le_refl _) _)
  have HA6 := Lib.hid (show Blk w6 ga (ints (List.replicate dt 0)) by rw [hw6, hga]; exact Blk.new (made_ints dt) rfl)
  have hz6 : w6.heap.size = w5.heap.size + 1 := by rw [hw6]; simp
  rw [← hga, ← hw6]
  clear hw6 b0
  have B45 := Lib.hid (B4.out.trans (B5.out.mono B4.out.size))
  have B456 := Lib.hid (B45.out.trans (B6.out.mono B45.out.size))
  have hs34 := B4.out.size
  have hs45 := B5.out.size
  have hs56 := B6.out.size
  have hs23 := D3.out.size
  have I6 := Lib.hid (show CarInv w2 w3.heap.size w4.heap.size w5.heap.size w6.heap.size gm g gs bt ga At nt T w6 (fun q => q < w2.heap.size ∨ (w3.heap.size ≤ q ∧ q < w6.heap.size)) (fun _ => False) (mx0 d.tables d.late d.chunk 0 []) (List.replicate dt 0) (List.replicate dt []) from
    ⟨(M3.out.sets (S' := fun q => q < w2.heap.size ∨ (w3.heap.size ≤ q ∧ q < w6.heap.size)) (fun k hk => hk.elim .inl (fun h => .inr h.1))).below B456.out, fun q hq => by omega, fun q hq => .inl hq, fun q h1 h2 => .inr ⟨h1, h2⟩, R5.out.below B6.out, fun q hq => hq.elim, HA6.out, D3.out.trans (B456.out.mono hs23), SL4.out.keep (fun p hp => (B5.out.trans (B6.out.mono hs45)).cell hp.2), hs23, hs34, ⟨HG5.out.1, R5.out.lt.1⟩, ⟨HG5.out.2, R5.out.lt.2⟩, ⟨by omega, by omega⟩, Nat.le_refl _⟩)
  have HP6 := Lib.hid (show CarPl dt (lt : Int) T 0 (mx0 d.tables d.late d.chunk 0 []) (List.replicate dt 0) (List.replicate dt []) from
    car_new dt (lt : Int) T _ (by omega) HDT.out HLT.out rfl rfl rfl HF0.out)
  have HC0 := Lib.hid (show ∀ ww : World, Below w2.heap.size w2 ww → ww.cell? ⟨CB, 0, none⟩ = some (.int .i64 (dt : Int)) ∧ ww.cell? ⟨CB, 1, none⟩ = some (.int .i64 (lt : Int)) from fun ww hb => by
    have e0 := (BC2.out.below hb BC2.out.lt).1 0 _ rfl
    have e1 := (BC2.out.below hb BC2.out.lt).1 1 _ rfl
    rw [HDT.out] at e0
    rw [HLT.out] at e1
    exact ⟨e0, e1⟩)
  have HCB2 := Lib.hid BC2.out.lt
  have HTF := Lib.hid (show ∀ (i : Nat) (t : Txn), T[i]? = some t → mayTxn t = true ∧ t.lsn = (i : Int) + 1 ∧ (t.kind ≠ 1 → t.changes = [] ∧ t.signals = []) ∧ ∀ c ∈ t.changes, 0 ≤ c.table ∧ c.table < (dt : Int) from fun i t ht => playTxns_facts dt (by omega) (by omega) L i t (by rw [← HT.out]; exact ht))
  have hnt40 : nt ≤ 40 := by rw [HNT.out, HT.out]; exact playTxns_len dt L
  obtain ⟨s3, hs3⟩ : ∃ s, s = w3.heap.size := ⟨_, rfl⟩
  obtain ⟨s4, hs4⟩ : ∃ s, s = w4.heap.size := ⟨_, rfl⟩
  obtain ⟨s5, hs5⟩ : ∃ s, s = w5.heap.size := ⟨_, rfl⟩
  obtain ⟨s6, hs6⟩ : ∃ s, s = w6.heap.size := ⟨_, rfl⟩
  obtain ⟨S6, hS6⟩ : ∃ S : Nat → Prop, S = (fun q => q < w2.heap.size ∨ (w3.heap.size ≤ q ∧ q < w6.heap.size)) := ⟨_, rfl⟩
  obtain ⟨x6, hx6⟩ : ∃ x, x = mx0 d.tables d.late d.chunk 0 [] := ⟨_, rfl⟩
  rw [← hx6] at HP6
  rw [← hs3, ← hs4, ← hs5, ← hs6, ← hx6] at I6
  have I7 := Lib.hid (show CarInv w2 s3 s4 s5 s6 gm g gs bt ga At nt T w6 S6 (fun _ => False) x6 (List.replicate dt 0) (List.replicate dt []) by rw [hS6, ← hs3, ← hs6]; exact I6.out)
  clear I6 hs3 hs4 hs5 hs6 hS6 hx6 hs34 hs45 hs56 hs23 hz6 hga
  go_loopw [10] (fun iv wr => ∃ (k : Nat) (S U : Nat → Prop) (x : Mx) (a : List Int) (tabs : List (List Cell)), iv = .int .i64 k ∧ k ≤ nt ∧ CarInv w2 s3 s4 s5 s6 gm g gs bt ga At nt T wr S U x a tabs ∧ CarPl dt (lt : Int) T k x a tabs) (fun iv _ => nt - (intOf iv).toNat)
  case atStart => exact ⟨0, S6, _, x6, _, _, rfl, Nat.zero_le _, I7.out, HP6.out⟩
  case round =>
    obtain ⟨wo, rfl⟩ : ∃ q : World, q = wr := ⟨_, rfl⟩
    obtain ⟨k, S, U, x, a, tabs, rfl, hk, hinv, hpl⟩ := hrel
    have IO := Lib.hid hinv
    have HPO := Lib.hid hpl
    obtain ⟨o1, o2, o3, o4, o5, o6⟩ := hinv.ord
    clear hinv hpl
    by_cases hkn : k < nt
    case pos =>
      have hd1 : decide ((k : Int) < (nt : Int)) = true := decide_eq_true (by omega)
      have hki : (k : Int) < (nt : Int) := by omega
      have hk0 : (0 : Int) ≤ (k : Int) := by omega
      have hw1 : IntKind.i64.wrap ((k : Int) + 1) = (k : Int) + 1 := IntWalk.i64_in _ (by omega)
      obtain ⟨b0, off, t0, A2, n2, c2, A3, n3, c3, rfl, hb0, hx, hti, q0, q1, q2, q3, q4, st, lt2, mt2, ss, lt3, mt3⟩ := IO.out.txn.txnU (w' := wo) hkn (fun _ _ => rfl)
      obtain ⟨ft1, ft2, ft3, ft4⟩ := HTF.out k t0 hx
      have HSTEP := Lib.hid (car_step HPO.out (by omega) hx ft1 ft2 ft3 ft4)
      have KC := muxTake_any S gm g x wo IO.out.hS IO.out.own HPO.out.fine t0 A2 n2 c2 A3 n3 c3 (st.weak IO.out.inS.2.2.2) (ss.weak IO.out.inS.2.2.2)
      obtain ⟨tl, tk, tch, tsg, tm⟩ := t0
      unfold txnV at KC
      dsimp only at q0 q1 q2 q3 q4 ss KC HSTEP
      have HKC := Lib.hid KC
      have SS := Lib.hid ss
      have HTX := Lib.hid hx
      have HB0 := Lib.hid (show S b0 from IO.out.inS.2.2.2 _ hb0)
      have hn3 : n3 ≤ 2 := by rw [ss.len]; exact (may_len16 ft1).2
      obtain ⟨x', hx'⟩ : ∃ x', x' = x.takeM ⟨tl, tk, tch, tsg, tm⟩ := ⟨_, rfl⟩
      obtain ⟨ops, hops⟩ : ∃ ops, ops = (x.takeI ⟨tl, tk, tch, tsg, tm⟩).ops := ⟨_, rfl⟩
      rw [← hx', ← hops] at HSTEP
      have HX := Lib.hid hx'
      have HOPS := Lib.hid hops
      have HPL := Lib.hid HSTEP.out.2.2.2.2.2
      clear KC hx hti st lt2 mt2 ss lt3 mt3 ft1 ft2 ft3 ft4 hx' hops
      have Q3 := Lib.hid q3
      go_upto_region 12 with (first
        | (go_at_call 28; (with_reducible refine HKC.out.mono ?_); rintro e w10 ⟨A7, n7, c7, A8, n8, c8, rfl, s7, s8, m10, r10⟩; rw [HSTEP.out.1, HSTEP.out.2.1]; rw [← HX.out] at m10; rw [← HOPS.out] at s7; have I10 := Lib.hid (IO.out.take m10 r10); have R10 := Lib.hid r10; have T7 := Lib.hid s7; clear s7 s8 m10 r10)
        | fail)
      obtain ⟨XB, hXB⟩ : ∃ XB, XB = w10.heap.size := ⟨_, rfl⟩
      obtain ⟨w11, hw11⟩ : ∃ w11, w11 = w10.alloc (.cells #[.int .i64 ((k : Int) + 1), .slice A7 n7 c7, .slice A8 n8 c8] 62) := ⟨_, rfl⟩
      have B11 := Lib.hid (show Below w10.heap.size w10 w11 by rw [hw11]; exact (Below.refl _ _).alloc (Nat.le_refl _) _)
      have BX := Lib.hid (show Blk w11 XB [.int .i64 ((k : Int) + 1), .slice A7 n7 c7, .slice A8 n8 c8] by rw [hw11, hXB]; exact Blk.new rfl rfl)
      rw [← hw11, ← hXB]
      have hxw : w10.heap.size ≤ XB := by rw [hXB]; exact Nat.le_refl _
      clear hw11 hXB q0 q1 q2 q3 q4
      have I11 := Lib.hid (I10.out.after B11.out)
      have hs10 := R10.out.size
      have hs11 := B11.out.size
      have hn7 : n7 ≤ 16 := by rw [T7.out.len]; exact HSTEP.out.2.2.2.2.1
      have hxb : XB < w11.heap.size := BX.out.lt
      have hxb6 : s6 ≤ XB := by omega
      have x0 := BX.out.1 0 _ rfl
      refine wp_region_held_drew (S := fun w' => w'.cell? ⟨XB, 0, none⟩ = some (.int .i64 ((k : Int) + 1))) (by kernel_rfl) (x0) (fun hHeld => ?_)
      (refine wpAnyH_take (i := 0) (v := ?_) rfl (by kernel_rfl) (by kernel_rfl) (by kernel_rfl) (fun _ _ _ h => h) (Or.inl ⟨by rfl, ?_⟩) hHeld ?_; rotate_left 1; focus (intro w hSw; (try dsimp only at hSw); go_simp; try with_reducible rfl)); (try simp only [Act.put, List.getElem_toArray, List.getElem_cons_zero, List.getElem_cons_succ, List.setIfInBounds_toArray, List.set_cons_zero, List.set_cons_succ])
      (refine wpAnyH_take (i := 1) (v := ?_) rfl (by kernel_rfl) (by kernel_rfl) (by kernel_rfl) (fun _ _ _ h => h) (Or.inl ⟨by rfl, ?_⟩) hHeld ?_; rotate_left 1; focus (intro w hSw; (try dsimp only at hSw); go_simp; try with_reducible rfl)); (try simp only [Act.put, List.getElem_toArray, List.getElem_cons_zero, List.getElem_cons_succ, List.setIfInBounds_toArray, List.set_cons_zero, List.set_cons_succ])
      (refine wpAnyH_take (i := 2) (v := ?_) rfl (by kernel_rfl) (by kernel_rfl) (by kernel_rfl) (fun _ _ _ h => h) (Or.inl ⟨by rfl, ?_⟩) hHeld ?_; rotate_left 1; focus (intro w hSw; (try dsimp only at hSw); go_simp; try with_reducible rfl)); (try simp only [Act.put, List.getElem_toArray, List.getElem_cons_zero, List.getElem_cons_succ, List.setIfInBounds_toArray, List.set_cons_zero, List.set_cons_succ])
      (refine wpAnyH_take (i := 3) (v := ?_) rfl (by kernel_rfl) (by kernel_rfl) (by kernel_rfl) (fun _ _ _ h => h) (Or.inl ⟨by rfl, ?_⟩) hHeld ?_; rotate_left 1; focus (intro w hSw; (try dsimp only at hSw); go_simp; try with_reducible rfl)); (try simp only [Act.put, List.getElem_toArray, List.getElem_cons_zero, List.getElem_cons_succ, List.setIfInBounds_toArray, List.set_cons_zero, List.set_cons_succ])
      (refine wpAnyH_take (i := 4) (v := ?_) rfl (by kernel_rfl) (by kernel_rfl) (by kernel_rfl) (fun _ _ _ h => h) (Or.inl ⟨by rfl, ?_⟩) hHeld ?_; rotate_left 1; focus (intro w hSw; (try dsimp only at hSw); go_simp; try with_reducible rfl)); (try simp only [Act.put, List.getElem_toArray, List.getElem_cons_zero, List.getElem_cons_succ, List.setIfInBounds_toArray, List.set_cons_zero, List.set_cons_succ])
      (refine wpAnyH_take (i := 5) (v := ?_) rfl (by kernel_rfl) (by kernel_rfl) (by kernel_rfl) (fun _ _ _ h => h) (Or.inl ⟨by rfl, ?_⟩) hHeld ?_; rotate_left 1; focus (intro w hSw; (try dsimp only at hSw); go_simp; try with_reducible rfl)); (try simp only [Act.put, List.getElem_toArray, List.getElem_cons_zero, List.getElem_cons_succ, List.setIfInBounds_toArray, List.set_cons_zero, List.set_cons_succ])
      (refine wpAnyH_take (i := 6) (v := ?_) rfl (by kernel_rfl) (by kernel_rfl) (by kernel_rfl) (fun _ _ _ h => h) (Or.inl ⟨by rfl, ?_⟩) hHeld ?_; rotate_left 1; focus (intro w hSw; (try dsimp only at hSw); go_simp; try with_reducible rfl)); (try simp only [Act.put, List.getElem_toArray, List.getElem_cons_zero, List.getElem_cons_succ, List.setIfInBounds_toArray, List.set_cons_zero, List.set_cons_succ])
      (refine wpAnyH_take (i := 7) (v := ?_) rfl (by kernel_rfl) (by kernel_rfl) (by kernel_rfl) (fun _ _ _ h => h) (Or.inl ⟨by rfl, ?_⟩) hHeld ?_; rotate_left 1; focus (intro w hSw; (try dsimp only at hSw); go_simp; try with_reducible rfl)); (try simp only [Act.put, List.getElem_toArray, List.getElem_cons_zero, List.getElem_cons_succ, List.setIfInBounds_toArray, List.set_cons_zero, List.set_cons_succ])
      (refine wpAnyH_take (i := 8) (v := ?_) rfl (by kernel_rfl) (by kernel_rfl) (by kernel_rfl) (fun _ _ _ h => h) (Or.inl ⟨by rfl, ?_⟩) hHeld ?_; rotate_left 1; focus (intro w hSw; (try dsimp only at hSw); go_simp; try with_reducible rfl)); (try simp only [Act.put, List.getElem_toArray, List.getElem_cons_zero, List.getElem_cons_succ, List.setIfInBounds_toArray, List.set_cons_zero, List.set_cons_succ])
      (refine wpAnyH_take (i := 9) (v := ?_) rfl (by kernel_rfl) (by kernel_rfl) (by kernel_rfl) (fun _ _ _ h => h) (Or.inl ⟨by rfl, ?_⟩) hHeld ?_; rotate_left 1; focus (intro w hSw; (try dsimp only at hSw); go_simp; try with_reducible rfl)); (try simp only [Act.put, List.getElem_toArray, List.getElem_cons_zero, List.getElem_cons_succ, List.setIfInBounds_toArray, List.set_cons_zero, List.set_cons_succ])
      (refine wpAnyH_take (i := 10) (v := ?_) rfl (by kernel_rfl) (by kernel_rfl) (by kernel_rfl) (fun _ _ _ h => h) (Or.inl ⟨by rfl, ?_⟩) hHeld ?_; rotate_left 1; focus (intro w hSw; (try dsimp only at hSw); go_simp; try with_reducible rfl)); (try simp only [Act.put, List.getElem_toArray, List.getElem_cons_zero, List.getElem_cons_succ, List.setIfInBounds_toArray, List.set_cons_zero, List.set_cons_succ])
      (refine wpAnyH_take (i := 12) (v := ?_) rfl (by kernel_rfl) (by kernel_rfl) (by kernel_rfl) (fun _ _ _ h => h) (Or.inl ⟨by rfl, ?_⟩) hHeld ?_; rotate_left 1; focus (intro w hSw; (try dsimp only at hSw); go_simp; try with_reducible rfl)); (try simp only [Act.put, List.getElem_toArray, List.getElem_cons_zero, List.getElem_cons_succ, List.setIfInBounds_toArray, List.set_cons_zero, List.set_cons_succ])
      (refine wpAnyH_take (i := 13) (v := ?_) rfl (by kernel_rfl) (by kernel_rfl) (by kernel_rfl) (fun _ _ _ h => h) (Or.inl ⟨by rfl, ?_⟩) hHeld ?_; rotate_left 1; focus (intro w hSw; (try dsimp only at hSw); go_simp; try with_reducible rfl)); (try simp only [Act.put, List.getElem_toArray, List.getElem_cons_zero, List.getElem_cons_succ, List.setIfInBounds_toArray, List.set_cons_zero, List.set_cons_succ])
      refine wpAnyH_ready (rs := [11]) (by kernel_rfl) (by simp) ?_
      refine AllReadyH.cons rfl (fun K hK => ?_) AllReadyH.nil
      go_simp
      (go_at_call 29; (with_reducible refine (muxAt_any S gm g x' w11.drew (I11.out.own.below (below_drewN (Below.refl _ _) 1))).mono ?_); rintro e w' ⟨rfl, rfl⟩; rw [HSTEP.out.2.2.1])
      refine hK.out _ _ (x0) (fun hHeld2 => ?_)
      clear hK K hHeld; have hHeld := hHeld2; clear hHeld2; (try simp only [Act.put, List.getElem_toArray, List.getElem_cons_zero, List.getElem_cons_succ, List.setIfInBounds_toArray, List.set_cons_zero, List.set_cons_succ])
      (refine wpAnyH_take (i := 14) (v := ?_) rfl (by kernel_rfl) (by kernel_rfl) (by kernel_rfl) (fun _ _ _ h => h) (Or.inl ⟨by rfl, ?_⟩) hHeld ?_; rotate_left 1; focus (intro w hSw; (try dsimp only at hSw); go_simp; try with_reducible rfl)); (try simp only [Act.put, List.getElem_toArray, List.getElem_cons_zero, List.getElem_cons_succ, List.setIfInBounds_toArray, List.set_cons_zero, List.set_cons_succ])
      (refine wpAnyH_take (i := 15) (v := ?_) rfl (by kernel_rfl) (by kernel_rfl) (by kernel_rfl) (fun _ _ _ h => h) (Or.inl ⟨by rfl, ?_⟩) hHeld ?_; rotate_left 1; focus (intro w hSw; (try dsimp only at hSw); go_simp; try with_reducible rfl)); (try simp only [Act.put, List.getElem_toArray, List.getElem_cons_zero, List.getElem_cons_succ, List.setIfInBounds_toArray, List.set_cons_zero, List.set_cons_succ])
      refine wpAnyH_done (by kernel_rfl) ?_ _
      clear x0
      go_wp2_with fail
      go_loopw [13] (fun jv wr => ∃ j : Nat, jv = .int .i64 j ∧ j ≤ n7 ∧ Below w11.heap.size w11 wr) (fun jv _ => n7 - (intOf jv).toNat)
      case atStart => exact ⟨0, rfl, Nat.zero_le _, below_drewN (Below.refl _ _) 1⟩
      case round =>
        obtain ⟨wi, rfl⟩ : ∃ q : World, q = wr := ⟨_, rfl⟩
        obtain ⟨j, rfl, hj, hbel⟩ := hrel
        have BI := Lib.hid hbel
        clear hbel
        have II := Lib.hid (I11.out.after BI.out)
        have BXI := Lib.hid (BX.out.after BI.out)
        obtain ⟨x0, x1, x2, xz⟩ := BXI.out.c3
        have hsi := BI.out.size
        by_cases hjn : j < n7
        case pos =>
          have hdj : decide ((j : Int) < (n7 : Int)) = true := decide_eq_true (by omega)
          have hji : (j : Int) < (n7 : Int) := by omega
          have hj0 : (0 : Int) ≤ (j : Int) := by omega
          obtain ⟨ob, oo, o, rfl, hob, hox, how, p0, p1, p2, p3, p4⟩ := T7.out.oprT (w' := wi) hjn (fun p hp => (BI.out.cell (Nat.lt_of_lt_of_le hp.2 hs11)).trans (B11.out.cell hp.2))
          obtain ⟨of1, of2, of3, of4⟩ := HSTEP.out.2.2.2.1 o (List.mem_of_getElem? hox)
          obtain ⟨ol, ot, okk, og, ov⟩ := o
          dsimp only at of1 of2 of3 of4 p0 p1
          subst of1
          have HOT := Lib.hid (show I64 ot from ⟨by omega, by omega⟩)
          have HCAP := Lib.hid of4
          have hdo1 : decide (ot < 0) = false := decide_eq_false (by omega)
          have hdo2 : decide ((dt : Int) ≤ ot) = false := decide_eq_false (by omega)
          have hobi : ob < wi.heap.size := by have := hob.2; omega
          have hxbi : XB < wi.heap.size := by omega
          have hcbi : CB < wi.heap.size := Nat.lt_of_lt_of_le HCB2.out II.out.bel.size
          have HS17 := Lib.hid (show wi.drew.cell? ⟨XB, 0, none⟩ = some (.int .i64 ((k : Int) + 1)) ∧ wi.drew.cell? ⟨XB, 1, none⟩ = some (.slice (some ⟨ob, oo, none⟩) n7 c7) ∧ wi.drew.cell? ⟨ob, oo + j * 5, none⟩ = some (.int .i64 ((k : Int) + 1)) ∧ wi.drew.cell? ⟨ob, oo + j * 5 + 1, none⟩ = some (.int .i64 ot) ∧ wi.drew.cell? ⟨CB, 0, none⟩ = some (.int .i64 (dt : Int)) from ⟨x0, x1, p0, p1, (HC0.out wi II.out.bel).1⟩)
          clear how hox p2 p3 p4 of4 hob
          go_wp2_with fail
          refine wp_region_held_drew (S := fun w' => w'.cell? ⟨XB, 0, none⟩ = some (.int .i64 ((k : Int) + 1)) ∧ w'.cell? ⟨XB, 1, none⟩ = some (.slice (some ⟨ob, oo, none⟩) n7 c7) ∧ w'.cell? ⟨ob, oo + j * 5, none⟩ = some (.int .i64 ((k : Int) + 1)) ∧ w'.cell? ⟨ob, oo + j * 5 + 1, none⟩ = some (.int .i64 ot) ∧ w'.cell? ⟨CB, 0, none⟩ = some (.int .i64 (dt : Int))) (by kernel_rfl) (HS17.out) (fun hHeld => ?_)
          (refine wpAnyH_take (i := 0) (v := ?_) rfl (by kernel_rfl) (by kernel_rfl) (by kernel_rfl) (fun _ _ _ h => h) (Or.inl ⟨by rfl, ?_⟩) hHeld ?_; rotate_left 1; focus (intro w hSw; (try dsimp only at hSw); go_simp; try with_reducible rfl)); (try simp only [Act.put, List.getElem_toArray, List.getElem_cons_zero, List.getElem_cons_succ, List.setIfInBounds_toArray, List.set_cons_zero, List.set_cons_succ])
          (refine wpAnyH_take (i := 1) (v := ?_) rfl (by kernel_rfl) (by kernel_rfl) (by kernel_rfl) (fun _ _ _ h => h) (Or.inl ⟨by rfl, ?_⟩) hHeld ?_; rotate_left 1; focus (intro w hSw; (try dsimp only at hSw); go_simp; try with_reducible rfl)); (try simp only [Act.put, List.getElem_toArray, List.getElem_cons_zero, List.getElem_cons_succ, List.setIfInBounds_toArray, List.set_cons_zero, List.set_cons_succ])
          (refine wpAnyH_take (i := 2) (v := ?_) rfl (by kernel_rfl) (by kernel_rfl) (by kernel_rfl) (fun _ _ _ h => h) (Or.inl ⟨by rfl, ?_⟩) hHeld ?_; rotate_left 1; focus (intro w hSw; (try dsimp only at hSw); go_simp; try with_reducible rfl)); (try simp only [Act.put, List.getElem_toArray, List.getElem_cons_zero, List.getElem_cons_succ, List.setIfInBounds_toArray, List.set_cons_zero, List.set_cons_succ])
          (refine wpAnyH_take (i := 3) (v := ?_) rfl (by kernel_rfl) (by kernel_rfl) (by kernel_rfl) (fun _ _ _ h => h) (Or.inl ⟨by rfl, ?_⟩) hHeld ?_; rotate_left 1; focus (intro w hSw; (try dsimp only at hSw); go_simp; try with_reducible rfl)); (try simp only [Act.put, List.getElem_toArray, List.getElem_cons_zero, List.getElem_cons_succ, List.setIfInBounds_toArray, List.set_cons_zero, List.set_cons_succ])
          (refine wpAnyH_take (i := 4) (v := ?_) rfl (by kernel_rfl) (by kernel_rfl) (by kernel_rfl) (fun _ _ _ h => h) (Or.inl ⟨by rfl, ?_⟩) hHeld ?_; rotate_left 1; focus (intro w hSw; (try dsimp only at hSw); go_simp; try with_reducible rfl)); (try simp only [Act.put, List.getElem_toArray, List.getElem_cons_zero, List.getElem_cons_succ, List.setIfInBounds_toArray, List.set_cons_zero, List.set_cons_succ])
          (refine wpAnyH_take (i := 5) (v := ?_) rfl (by kernel_rfl) (by kernel_rfl) (by kernel_rfl) (fun _ _ _ h => h) (Or.inl ⟨by rfl, ?_⟩) hHeld ?_; rotate_left 1; focus (intro w hSw; (try dsimp only at hSw); go_simp; try with_reducible rfl)); (try simp only [Act.put, List.getElem_toArray, List.getElem_cons_zero, List.getElem_cons_succ, List.setIfInBounds_toArray, List.set_cons_zero, List.set_cons_succ])
          (refine wpAnyH_take (i := 6) (v := ?_) rfl (by kernel_rfl) (by kernel_rfl) (by kernel_rfl) (fun _ _ _ h => h) (Or.inl ⟨by rfl, ?_⟩) hHeld ?_; rotate_left 1; focus (intro w hSw; (try dsimp only at hSw); go_simp; try with_reducible rfl)); (try simp only [Act.put, List.getElem_toArray, List.getElem_cons_zero, List.getElem_cons_succ, List.setIfInBounds_toArray, List.set_cons_zero, List.set_cons_succ])
          (refine wpAnyH_take (i := 7) (v := ?_) rfl (by kernel_rfl) (by kernel_rfl) (by kernel_rfl) (fun _ _ _ h => h) (Or.inl ⟨by rfl, ?_⟩) hHeld ?_; rotate_left 1; focus (intro w hSw; (try dsimp only at hSw); go_simp; try with_reducible rfl)); (try simp only [Act.put, List.getElem_toArray, List.getElem_cons_zero, List.getElem_cons_succ, List.setIfInBounds_toArray, List.set_cons_zero, List.set_cons_succ])
          (refine wpAnyH_take (i := 8) (v := ?_) rfl (by kernel_rfl) (by kernel_rfl) (by kernel_rfl) (fun _ _ _ h => h) (Or.inl ⟨by rfl, ?_⟩) hHeld ?_; rotate_left 1; focus (intro w hSw; (try dsimp only at hSw); go_simp; try with_reducible rfl)); (try simp only [Act.put, List.getElem_toArray, List.getElem_cons_zero, List.getElem_cons_succ, List.setIfInBounds_toArray, List.set_cons_zero, List.set_cons_succ])
          (refine wpAnyH_take (i := 9) (v := ?_) rfl (by kernel_rfl) (by kernel_rfl) (by kernel_rfl) (fun _ _ _ h => h) (Or.inl ⟨by rfl, ?_⟩) hHeld ?_; rotate_left 1; focus (intro w hSw; (try dsimp only at hSw); go_simp; try with_reducible rfl)); (try simp only [Act.put, List.getElem_toArray, List.getElem_cons_zero, List.getElem_cons_succ, List.setIfInBounds_toArray, List.set_cons_zero, List.set_cons_succ])
          (refine wpAnyH_take (i := 10) (v := ?_) rfl (by kernel_rfl) (by kernel_rfl) (by kernel_rfl) (fun _ _ _ h => h) (Or.inl ⟨by rfl, ?_⟩) hHeld ?_; rotate_left 1; focus (intro w hSw; (try dsimp only at hSw); go_simp; try with_reducible rfl)); (try simp only [Act.put, List.getElem_toArray, List.getElem_cons_zero, List.getElem_cons_succ, List.setIfInBounds_toArray, List.set_cons_zero, List.set_cons_succ])
          (refine wpAnyH_take (i := 11) (v := ?_) rfl (by kernel_rfl) (by kernel_rfl) (by kernel_rfl) (fun _ _ _ h => h) (Or.inl ⟨by rfl, ?_⟩) hHeld ?_; rotate_left 1; focus (intro w hSw; (try dsimp only at hSw); go_simp; try with_reducible rfl)); (try simp only [Act.put, List.getElem_toArray, List.getElem_cons_zero, List.getElem_cons_succ, List.setIfInBounds_toArray, List.set_cons_zero, List.set_cons_succ])
          (refine wpAnyH_take (i := 12) (v := ?_) rfl (by kernel_rfl) (by kernel_rfl) (by kernel_rfl) (fun _ _ _ h => h) (Or.inl ⟨by rfl, ?_⟩) hHeld ?_; rotate_left 1; focus (intro w hSw; (try dsimp only at hSw); go_simp; try with_reducible rfl)); (try simp only [Act.put, List.getElem_toArray, List.getElem_cons_zero, List.getElem_cons_succ, List.setIfInBounds_toArray, List.set_cons_zero, List.set_cons_succ])
          (refine wpAnyH_take (i := 13) (v := ?_) rfl (by kernel_rfl) (by kernel_rfl) (by kernel_rfl) (fun _ _ _ h => h) (Or.inl ⟨by rfl, ?_⟩) hHeld ?_; rotate_left 1; focus (intro w hSw; (try dsimp only at hSw); go_simp; try with_reducible rfl)); (try simp only [Act.put, List.getElem_toArray, List.getElem_cons_zero, List.getElem_cons_succ, List.setIfInBounds_toArray, List.set_cons_zero, List.set_cons_succ])
          (refine wpAnyH_take (i := 14) (v := ?_) rfl (by kernel_rfl) (by kernel_rfl) (by kernel_rfl) (fun _ _ _ h => h) (Or.inl ⟨by rfl, ?_⟩) hHeld ?_; rotate_left 1; focus (intro w hSw; (try dsimp only at hSw); go_simp; try with_reducible rfl)); (try simp only [Act.put, List.getElem_toArray, List.getElem_cons_zero, List.getElem_cons_succ, List.setIfInBounds_toArray, List.set_cons_zero, List.set_cons_succ])
          (refine wpAnyH_take (i := 15) (v := ?_) rfl (by kernel_rfl) (by kernel_rfl) (by kernel_rfl) (fun _ _ _ h => h) (Or.inl ⟨by rfl, ?_⟩) hHeld ?_; rotate_left 1; focus (intro w hSw; (try dsimp only at hSw); go_simp; try with_reducible rfl)); (try simp only [Act.put, List.getElem_toArray, List.getElem_cons_zero, List.getElem_cons_succ, List.setIfInBounds_toArray, List.set_cons_zero, List.set_cons_succ])
          (refine wpAnyH_take (i := 16) (v := ?_) rfl (by kernel_rfl) (by kernel_rfl) (by kernel_rfl) (fun _ _ _ h => h) (Or.inl ⟨by rfl, ?_⟩) hHeld ?_; rotate_left 1; focus (intro w hSw; (try dsimp only at hSw); go_simp; try with_reducible rfl)); (try simp only [Act.put, List.getElem_toArray, List.getElem_cons_zero, List.getElem_cons_succ, List.setIfInBounds_toArray, List.set_cons_zero, List.set_cons_succ])
          (refine wpAnyH_take (i := 17) (v := ?_) rfl (by kernel_rfl) (by kernel_rfl) (by kernel_rfl) (fun _ _ _ h => h) (Or.inl ⟨by rfl, ?_⟩) hHeld ?_; rotate_left 1; focus (intro w hSw; (try dsimp only at hSw); go_simp; try with_reducible rfl)); (try simp only [Act.put, List.getElem_toArray, List.getElem_cons_zero, List.getElem_cons_succ, List.setIfInBounds_toArray, List.set_cons_zero, List.set_cons_succ])
          (refine wpAnyH_take (i := 18) (v := ?_) rfl (by kernel_rfl) (by kernel_rfl) (by kernel_rfl) (fun _ _ _ h => h) (Or.inl ⟨by rfl, ?_⟩) hHeld ?_; rotate_left 1; focus (intro w hSw; (try dsimp only at hSw); go_simp; try with_reducible rfl)); (try simp only [Act.put, List.getElem_toArray, List.getElem_cons_zero, List.getElem_cons_succ, List.setIfInBounds_toArray, List.set_cons_zero, List.set_cons_succ])
          (refine wpAnyH_take (i := 19) (v := ?_) rfl (by kernel_rfl) (by kernel_rfl) (by kernel_rfl) (fun _ _ _ h => h) (Or.inl ⟨by rfl, ?_⟩) hHeld ?_; rotate_left 1; focus (intro w hSw; (try dsimp only at hSw); go_simp; try with_reducible rfl)); (try simp only [Act.put, List.getElem_toArray, List.getElem_cons_zero, List.getElem_cons_succ, List.setIfInBounds_toArray, List.set_cons_zero, List.set_cons_succ])
          (refine wpAnyH_take (i := 20) (v := ?_) rfl (by kernel_rfl) (by kernel_rfl) (by kernel_rfl) (fun _ _ _ h => h) (Or.inl ⟨by rfl, ?_⟩) hHeld ?_; rotate_left 1; focus (intro w hSw; (try dsimp only at hSw); go_simp; try with_reducible rfl)); (try simp only [Act.put, List.getElem_toArray, List.getElem_cons_zero, List.getElem_cons_succ, List.setIfInBounds_toArray, List.set_cons_zero, List.set_cons_succ])
          (refine wpAnyH_take (i := 21) (v := ?_) rfl (by kernel_rfl) (by kernel_rfl) (by kernel_rfl) (fun _ _ _ h => h) (Or.inl ⟨by rfl, ?_⟩) hHeld ?_; rotate_left 1; focus (intro w hSw; (try dsimp only at hSw); go_simp; try with_reducible rfl)); (try simp only [Act.put, List.getElem_toArray, List.getElem_cons_zero, List.getElem_cons_succ, List.setIfInBounds_toArray, List.set_cons_zero, List.set_cons_succ])
          (refine wpAnyH_take (i := 22) (v := ?_) rfl (by kernel_rfl) (by kernel_rfl) (by kernel_rfl) (fun _ _ _ h => h) (Or.inl ⟨by rfl, ?_⟩) hHeld ?_; rotate_left 1; focus (intro w hSw; (try dsimp only at hSw); go_simp; try with_reducible rfl)); (try simp only [Act.put, List.getElem_toArray, List.getElem_cons_zero, List.getElem_cons_succ, List.setIfInBounds_toArray, List.set_cons_zero, List.set_cons_succ])
          (refine wpAnyH_take (i := 23) (v := ?_) rfl (by kernel_rfl) (by kernel_rfl) (by kernel_rfl) (fun _ _ _ h => h) (Or.inl ⟨by rfl, ?_⟩) hHeld ?_; rotate_left 1; focus (intro w hSw; (try dsimp only at hSw); go_simp; try with_reducible rfl)); (try simp only [Act.put, List.getElem_toArray, List.getElem_cons_zero, List.getElem_cons_succ, List.setIfInBounds_toArray, List.set_cons_zero, List.set_cons_succ])
          (refine wpAnyH_take (i := 24) (v := ?_) rfl (by kernel_rfl) (by kernel_rfl) (by kernel_rfl) (fun _ _ _ h => h) (Or.inl ⟨by rfl, ?_⟩) hHeld ?_; rotate_left 1; focus (intro w hSw; (try dsimp only at hSw); go_simp; try with_reducible rfl)); (try simp only [Act.put, List.getElem_toArray, List.getElem_cons_zero, List.getElem_cons_succ, List.setIfInBounds_toArray, List.set_cons_zero, List.set_cons_succ])
          (refine wpAnyH_take (i := 25) (v := ?_) rfl (by kernel_rfl) (by kernel_rfl) (by kernel_rfl) (fun _ _ _ h => h) (Or.inl ⟨by rfl, ?_⟩) hHeld ?_; rotate_left 1; focus (intro w hSw; (try dsimp only at hSw); go_simp; try with_reducible rfl)); (try simp only [Act.put, List.getElem_toArray, List.getElem_cons_zero, List.getElem_cons_succ, List.setIfInBounds_toArray, List.set_cons_zero, List.set_cons_succ])
          (refine wpAnyH_take (i := 26) (v := ?_) rfl (by kernel_rfl) (by kernel_rfl) (by kernel_rfl) (fun _ _ _ h => h) (Or.inl ⟨by rfl, ?_⟩) hHeld ?_; rotate_left 1; focus (intro w hSw; (try dsimp only at hSw); go_simp; try with_reducible rfl)); (try simp only [Act.put, List.getElem_toArray, List.getElem_cons_zero, List.getElem_cons_succ, List.setIfInBounds_toArray, List.set_cons_zero, List.set_cons_succ])
          (refine wpAnyH_take (i := 27) (v := ?_) rfl (by kernel_rfl) (by kernel_rfl) (by kernel_rfl) (fun _ _ _ h => h) (Or.inl ⟨by rfl, ?_⟩) hHeld ?_; rotate_left 1; focus (intro w hSw; (try dsimp only at hSw); go_simp; try with_reducible rfl)); (try simp only [Act.put, List.getElem_toArray, List.getElem_cons_zero, List.getElem_cons_succ, List.setIfInBounds_toArray, List.set_cons_zero, List.set_cons_succ])
          (refine wpAnyH_take (i := 28) (v := ?_) rfl (by kernel_rfl) (by kernel_rfl) (by kernel_rfl) (fun _ _ _ h => h) (Or.inl ⟨by rfl, ?_⟩) hHeld ?_; rotate_left 1; focus (intro w hSw; (try dsimp only at hSw); go_simp; try with_reducible rfl)); (try simp only [Act.put, List.getElem_toArray, List.getElem_cons_zero, List.getElem_cons_succ, List.setIfInBounds_toArray, List.set_cons_zero, List.set_cons_succ])
          (refine wpAnyH_take (i := 29) (v := ?_) rfl (by kernel_rfl) (by kernel_rfl) (by kernel_rfl) (fun _ _ _ h => h) (Or.inl ⟨by rfl, ?_⟩) hHeld ?_; rotate_left 1; focus (intro w hSw; (try dsimp only at hSw); go_simp; try with_reducible rfl)); (try simp only [Act.put, List.getElem_toArray, List.getElem_cons_zero, List.getElem_cons_succ, List.setIfInBounds_toArray, List.set_cons_zero, List.set_cons_succ])
          (refine wpAnyH_take (i := 30) (v := ?_) rfl (by kernel_rfl) (by kernel_rfl) (by kernel_rfl) (fun _ _ _ h => h) (Or.inl ⟨by rfl, ?_⟩) hHeld ?_; rotate_left 1; focus (intro w hSw; (try dsimp only at hSw); go_simp; try with_reducible rfl)); (try simp only [Act.put, List.getElem_toArray, List.getElem_cons_zero, List.getElem_cons_succ, List.setIfInBounds_toArray, List.set_cons_zero, List.set_cons_succ])
          (refine wpAnyH_take (i := 31) (v := ?_) rfl (by kernel_rfl) (by kernel_rfl) (by kernel_rfl) (fun _ _ _ h => h) (Or.inl ⟨by rfl, ?_⟩) hHeld ?_; rotate_left 1; focus (intro w hSw; (try dsimp only at hSw); go_simp; try with_reducible rfl)); (try simp only [Act.put, List.getElem_toArray, List.getElem_cons_zero, List.getElem_cons_succ, List.setIfInBounds_toArray, List.set_cons_zero, List.set_cons_succ])
          (refine wpAnyH_take (i := 32) (v := ?_) rfl (by kernel_rfl) (by kernel_rfl) (by kernel_rfl) (fun _ _ _ h => h) (Or.inl ⟨by rfl, ?_⟩) hHeld ?_; rotate_left 1; focus (intro w hSw; (try dsimp only at hSw); go_simp; try with_reducible rfl)); (try simp only [Act.put, List.getElem_toArray, List.getElem_cons_zero, List.getElem_cons_succ, List.setIfInBounds_toArray, List.set_cons_zero, List.set_cons_succ])
          (refine wpAnyH_take (i := 33) (v := ?_) rfl (by kernel_rfl) (by kernel_rfl) (by kernel_rfl) (fun _ _ _ h => h) (Or.inl ⟨by rfl, ?_⟩) hHeld ?_; rotate_left 1; focus (intro w hSw; (try dsimp only at hSw); go_simp; try with_reducible rfl)); (try simp only [Act.put, List.getElem_toArray, List.getElem_cons_zero, List.getElem_cons_succ, List.setIfInBounds_toArray, List.set_cons_zero, List.set_cons_succ])
          (refine wpAnyH_take (i := 34) (v := ?_) rfl (by kernel_rfl) (by kernel_rfl) (by kernel_rfl) (fun _ _ _ h => h) (Or.inl ⟨by rfl, ?_⟩) hHeld ?_; rotate_left 1; focus (intro w hSw; (try dsimp only at hSw); go_simp; try with_reducible rfl)); (try simp only [Act.put, List.getElem_toArray, List.getElem_cons_zero, List.getElem_cons_succ, List.setIfInBounds_toArray, List.set_cons_zero, List.set_cons_succ])
          (refine wpAnyH_take (i := 35) (v := ?_) rfl (by kernel_rfl) (by kernel_rfl) (by kernel_rfl) (fun _ _ _ h => h) (Or.inl ⟨by rfl, ?_⟩) hHeld ?_; rotate_left 1; focus (intro w hSw; (try dsimp only at hSw); go_simp; try with_reducible rfl)); (try simp only [Act.put, List.getElem_toArray, List.getElem_cons_zero, List.getElem_cons_succ, List.setIfInBounds_toArray, List.set_cons_zero, List.set_cons_succ])
          (refine wpAnyH_take (i := 36) (v := ?_) rfl (by kernel_rfl) (by kernel_rfl) (by kernel_rfl) (fun _ _ _ h => h) (Or.inl ⟨by rfl, ?_⟩) hHeld ?_; rotate_left 1; focus (intro w hSw; (try dsimp only at hSw); go_simp; try with_reducible rfl)); (try simp only [Act.put, List.getElem_toArray, List.getElem_cons_zero, List.getElem_cons_succ, List.setIfInBounds_toArray, List.set_cons_zero, List.set_cons_succ])
          refine wpAnyH_ready (rs := [37]) (by kernel_rfl) (by simp) ?_
          refine AllReadyH.cons rfl (fun K hK => ?_) AllReadyH.nil
          go_simp
          (go_at_call 30; (with_reducible refine (muxCapt_any S gm g x' wi.drew (II.out.own.below (below_drewN (Below.refl _ _) 1)) HPL.out.fine ot HOT.out).mono ?_); rintro e w12 ⟨rfl, bel12⟩; rw [HCAP.out]; have B12 := Lib.hid (below_of_drew bel12); have HS12 := Lib.hid (show w12.cell? ⟨XB, 0, none⟩ = some (.int .i64 ((k : Int) + 1)) ∧ w12.cell? ⟨XB, 1, none⟩ = some (.slice (some ⟨ob, oo, none⟩) n7 c7) ∧ w12.cell? ⟨ob, oo + j * 5, none⟩ = some (.int .i64 ((k : Int) + 1)) ∧ w12.cell? ⟨ob, oo + j * 5 + 1, none⟩ = some (.int .i64 ot) ∧ w12.cell? ⟨CB, 0, none⟩ = some (.int .i64 (dt : Int)) from ⟨(bel12.cell (p := ⟨XB, 0, none⟩) hxbi).trans HS17.out.1, (bel12.cell (p := ⟨XB, 1, none⟩) hxbi).trans HS17.out.2.1, (bel12.cell (p := ⟨ob, _, none⟩) hobi).trans HS17.out.2.2.1, (bel12.cell (p := ⟨ob, _, none⟩) hobi).trans HS17.out.2.2.2.1, (bel12.cell (p := ⟨CB, 0, none⟩) hcbi).trans HS17.out.2.2.2.2⟩); clear bel12)
          refine hK.out _ _ (HS12.out) (fun hHeld2 => ?_)
          clear hK K hHeld; have hHeld := hHeld2; clear hHeld2; (try simp only [Act.put, List.getElem_toArray, List.getElem_cons_zero, List.getElem_cons_succ, List.setIfInBounds_toArray, List.set_cons_zero, List.set_cons_succ])
          (refine wpAnyH_take (i := 38) (v := ?_) rfl (by kernel_rfl) (by kernel_rfl) (by kernel_rfl) (fun _ _ _ h => h) (Or.inl ⟨by rfl, ?_⟩) hHeld ?_; rotate_left 1; focus (intro w hSw; (try dsimp only at hSw); go_simp; try with_reducible rfl)); (try simp only [Act.put, List.getElem_toArray, List.getElem_cons_zero, List.getElem_cons_succ, List.setIfInBounds_toArray, List.set_cons_zero, List.set_cons_succ])
          (refine wpAnyH_take (i := 39) (v := ?_) rfl (by kernel_rfl) (by kernel_rfl) (by kernel_rfl) (fun _ _ _ h => h) (Or.inl ⟨by rfl, ?_⟩) hHeld ?_; rotate_left 1; focus (intro w hSw; (try dsimp only at hSw); go_simp; try with_reducible rfl)); (try simp only [Act.put, List.getElem_toArray, List.getElem_cons_zero, List.getElem_cons_succ, List.setIfInBounds_toArray, List.set_cons_zero, List.set_cons_succ])
          refine wpAnyH_done (by kernel_rfl) ?_ _
          go_wp2_with fail
          go_roundw
          case rel => exact ⟨j + 1, by go_num, by omega, BI.out.trans (B12.out.mono hsi)⟩
          case measure => simp [intOf]; omega
        case neg =>
          obtain rfl : n7 = j := by omega
          have hdj : decide ((n7 : Int) < (n7 : Int)) = false := by simp
          have GI := Lib.hid (show w11.grownBy wi (some ga) from grown_of_below BI.out _)
          clear hj hjn
          go_wp2_with fail
          clear x0 x1 x2 xz
          go_loopw [14] (fun jv wr => ∃ (j : Nat) (aj : List Int), jv = .int .i64 j ∧ j ≤ n3 ∧ aj = askAll dt ((k : Int) + 1) a (tsg.take j) ∧ CarInv w2 s3 s4 s5 s6 gm g gs bt ga (some ⟨b0, off, none⟩) nt T wr S U x' aj tabs ∧ w11.grownBy wr (some ga)) (fun jv _ => n3 - (intOf jv).toNat)
          case atStart => exact ⟨0, a, rfl, Nat.zero_le _, rfl, II.out, GI.out⟩
          case round =>
            obtain ⟨wz, rfl⟩ : ∃ q : World, q = wr := ⟨_, rfl⟩
            obtain ⟨j, aj, rfl, hj, haj, hinv, hgr⟩ := hrel
            have IZ := Lib.hid hinv
            have GZ := Lib.hid hgr
            have HAJ := Lib.hid haj
            have hsz := hgr.size
            clear hinv hgr haj
            have KS := Lib.hid (show ∀ p : Addr, S p.block → p.block ≠ ga → wz.cell? p = wo.cell? p from fun p hp hn => (World.cell?_of_block (GZ.out.block _ (I11.out.hS _ hp) (fun e => hn (by injection e)))).trans ((B11.out.cell (I10.out.hS _ hp)).trans (R10.out.cell hp)))
            have hb0g : b0 ≠ ga := by have := hb0.2; omega
            have q3 := (KS.out ⟨b0, _, none⟩ HB0.out hb0g).trans Q3.out
            have BXZ := Lib.hid (show Blk wz XB [.int .i64 ((k : Int) + 1), .slice A7 n7 c7, .slice A8 n8 c8] from BX.out.grown GZ.out (fun e he => by injection he with he; omega))
            by_cases hjn : j < n3
            case neg =>
              obtain rfl : n3 = j := by omega
              have hdz : decide ((n3 : Int) < (n3 : Int)) = false := by simp
              have HTS := Lib.hid (show tsg.take n3 = tsg from List.take_of_length_le (by rw [← SS.out.len]; exact Nat.le_refl _))
              rw [HTS.out] at HAJ
              obtain ⟨x0, x1, x2, xz⟩ := BXZ.out.c3
              have KP := repput_any gs bt U tabs A7 n7 c7 ops wz IZ.out.rep (fun q => wo.heap.size ≤ q ∧ q < w10.heap.size) (fun q hq => by have := hq.2; omega) (fun hq => by have := hq.1; omega) (T7.out.keep (fun p hp => (World.cell?_of_block (GZ.out.block _ (by have := hp.2; omega) (fun e => by injection e with e; have := hp.1; omega))).trans (B11.out.cell hp.2))) (fun o ho => by have := HSTEP.out.2.2.2.1 o ho; rw [HPO.out.len]; exact ⟨this.2.1, this.2.2.1⟩) (fun y hy => by have := HPO.out.small y hy; omega) (by rw [HPO.out.len]; omega) (by omega)
              have HKP := Lib.hid KP
              clear KP hj hjn HTS
              go_wp2_with (first
                | (go_at_call 32; (with_reducible refine HKP.out.mono ?_); rintro e w15 hp15; have IP := Lib.hid (IZ.out.put hp15); obtain ⟨⟨rq, rfl⟩, _, _⟩ := hp15)
                | fail)
              go_roundw
              case rel => exact ⟨k + 1, _, _, x', aj, _, by go_num, by omega, IP.out, by rw [HAJ.out]; exact HPL.out⟩
              case measure => simp [intOf]; omega
            case pos =>
              have hdz : decide ((j : Int) < (n3 : Int)) = true := decide_eq_true (by omega)
              have hji : (j : Int) < (n3 : Int) := by omega
              have hj0 : (0 : Int) ≤ (j : Int) := by omega
              obtain ⟨b9, o9, sg, rfl, hb9, hsx, hsg, e9⟩ := SS.out.strT (w' := wz) hjn (fun p hp => KS.out p (IO.out.inS.2.2.2 _ hp) (by have := hp.2; omega))
              have HASK := Lib.hid (show askAll dt ((k : Int) + 1) a (tsg.take (j + 1)) = ask1 dt ((k : Int) + 1) aj sg by rw [take_snoc hsx, askAll_snoc, ← HAJ.out])
              have HAL := Lib.hid (show aj.length = dt by rw [HAJ.out, askAll_len]; exact HPO.out.asks.len)
              obtain ⟨pb1, pb2, pb3, pb4⟩ := parse_bounds sg.data.toList
              obtain ⟨⟨pa, pb, pc⟩, hp⟩ : ∃ p, p = parseS sg.data.toList := ⟨_, rfl⟩
              rw [← hp] at pb1 pb2 pb3 pb4
              dsimp only at pb1 pb2 pb3 pb4
              have HPA := Lib.hid (show sigV (parseS sg.data.toList) = .tuple #[.agg #[.int .i64 pa, .int .i64 pb], .bool pc] by rw [← hp]; rfl)
              obtain ⟨pt, rfl⟩ := Int.eq_ofNat_of_zero_le pb1
              have HONE := Lib.hid (show ask1 dt ((k : Int) + 1) aj sg = if (pc && decide ((pt : Int) < (dt : Int))) = true ∧ aj[pt]? = some 0 then aj.set pt ((k : Int) + 1) else aj by unfold ask1 isAsk askT; rw [← hp]; rfl)
              have hszz := IZ.out.hS
              clear hp hsx hszz
              have ARM : True := trivial
              cases pc with
              | false =>
                have HZ := Lib.hid (show askAll dt ((k : Int) + 1) a (tsg.take (j + 1)) = aj by rw [HASK.out, HONE.out, if_neg (by simp)])
                go_wp2_with (first
                  | (go_at_call 31; (with_reducible refine (refparse_any sg wz hsg).mono ?_); rintro e w16 ⟨rfl, bel16⟩; rw [HPA.out]; have B16 := Lib.hid bel16; clear bel16)
                  | fail)
                go_roundw
                case rel => exact ⟨j + 1, aj, by go_num, by omega, HZ.out.symm, IZ.out.after (B16.out.alloc B16.out.size _), grown_trans GZ.out (grown_of_below (B16.out.alloc B16.out.size _) _)⟩
                case measure => simp [intOf]; omega
              | true =>
                by_cases hpd : pt < dt
                case neg =>
                  have hdp : decide ((pt : Int) < (dt : Int)) = false := decide_eq_false (by omega)
                  have HZ := Lib.hid (show askAll dt ((k : Int) + 1) a (tsg.take (j + 1)) = aj by rw [HASK.out, HONE.out, if_neg (by rw [hdp]; simp)])
                  go_wp2_with (first
                    | (go_at_call 31; (with_reducible refine (refparse_any sg wz hsg).mono ?_); rintro e w16 ⟨rfl, bel16⟩; rw [HPA.out]; have B16 := Lib.hid bel16; obtain ⟨w17, hw17⟩ : ∃ w17, w17 = w16.alloc (.cells #[.int .i64 (pt : Int), .int .i64 pb] 74) := ⟨_, rfl⟩; have HW17 := Lib.hid hw17; have B17 := Lib.hid (show Below wz.heap.size wz w17 by rw [hw17]; exact bel16.alloc bel16.size _); have f0 := (HC0.out _ (IZ.out.after B17.out).bel).1; rw [hw17] at f0; clear bel16 hw17)
                    | fail)
                  go_roundw
                  case rel => exact ⟨j + 1, aj, by go_num, by omega, HZ.out.symm, by have := IZ.out.after B17.out; rw [HW17.out] at this; exact this, by have := grown_trans GZ.out (grown_of_below B17.out (some ga)); rw [HW17.out] at this; exact this⟩
                  case measure => simp [intOf]; omega
                case pos =>
                  have hdp : decide ((pt : Int) < (dt : Int)) = true := decide_eq_true (by omega)
                  have hpi : (pt : Int) < (dt : Int) := by omega
                  have hp0 : (0 : Int) ≤ (pt : Int) := by omega
                  have hpl : pt < aj.length := by rw [HAL.out]; exact hpd
                  obtain ⟨av, hav⟩ : ∃ av, aj[pt]? = some av := ⟨_, List.getElem?_eq_getElem hpl⟩
                  have HAV := Lib.hid (show (ints aj)[pt]? = some (.int .i64 av) by unfold ints; rw [List.getElem?_map, hav]; rfl)
                  by_cases hav0 : av = 0
                  case neg =>
                    have HZ := Lib.hid (show askAll dt ((k : Int) + 1) a (tsg.take (j + 1)) = aj by rw [HASK.out, HONE.out, if_neg (by rw [hav]; intro e; exact hav0 (Option.some.inj e.2))])
                    have hne : (av == 0) = false := by simpa using hav0
                    clear hav
                    go_wp2_with (first
                      | (go_at_call 31; (with_reducible refine (refparse_any sg wz hsg).mono ?_); rintro e w16 ⟨rfl, bel16⟩; rw [HPA.out]; have B16 := Lib.hid bel16; obtain ⟨w17, hw17⟩ : ∃ w17, w17 = w16.alloc (.cells #[.int .i64 (pt : Int), .int .i64 pb] 74) := ⟨_, rfl⟩; have HW17 := Lib.hid hw17; have B17 := Lib.hid (show Below wz.heap.size wz w17 by rw [hw17]; exact bel16.alloc bel16.size _); have f0 := (HC0.out _ (IZ.out.after B17.out).bel).1; have f1 := (IZ.out.after B17.out).ask.1 pt _ HAV.out; rw [hw17] at f0 f1; clear bel16 hw17)
                      | fail)
                    go_roundw
                    case rel => exact ⟨j + 1, aj, by go_num, by omega, HZ.out.symm, by have := IZ.out.after B17.out; rw [HW17.out] at this; exact this, by have := grown_trans GZ.out (grown_of_below B17.out (some ga)); rw [HW17.out] at this; exact this⟩
                    case measure => simp [intOf]; omega
                  case pos =>
                    subst hav0
                    have HZ := Lib.hid (show askAll dt ((k : Int) + 1) a (tsg.take (j + 1)) = aj.set pt ((k : Int) + 1) by rw [HASK.out, HONE.out, if_pos ⟨by rw [hdp]; rfl, hav⟩])
                    clear hav
                    go_wp2_with (first
                      | (go_at_call 31; (with_reducible refine (refparse_any sg wz hsg).mono ?_); rintro e w16 ⟨rfl, bel16⟩; rw [HPA.out]; have B16 := Lib.hid bel16; obtain ⟨w17, hw17⟩ : ∃ w17, w17 = w16.alloc (.cells #[.int .i64 (pt : Int), .int .i64 pb] 74) := ⟨_, rfl⟩; have HW17 := Lib.hid hw17; have B17 := Lib.hid (show Below wz.heap.size wz w17 by rw [hw17]; exact bel16.alloc bel16.size _); have I17 := Lib.hid (IZ.out.after B17.out); have f0 := (HC0.out _ I17.out.bel).1; have f1 := I17.out.ask.1 pt _ HAV.out; have f2 := I17.out.ask.2.1 pt; rw [hw17] at f0 f1 f2; clear bel16 hw17)
                      | fail)
                    go_roundw
                    case rel => exact ⟨j + 1, aj.set pt ((k : Int) + 1), by go_num, by omega, HZ.out.symm, by have := I17.out.store pt hpl ((k : Int) + 1); rw [HW17.out] at this; exact this, by have := grown_trans (grown_trans GZ.out (grown_of_below B17.out (some ga))) (grown_setB w17 ⟨ga, pt, none⟩ (.int .i64 ((k : Int) + 1))); rw [HW17.out] at this; exact this⟩
                    case measure => simp [intOf]; omega
    case neg =>
      obtain rfl : nt = k := by omega
      have hd1 : decide ((nt : Int) < (nt : Int)) = false := by simp
      have HPL := Lib.hid HPO.out
      clear hkn hk
      go_wp2_with fail
      go_loopw [17] (fun kv wr => ∃ q : Nat, kv = .int .i64 q ∧ q ≤ dt ∧ Below wo.heap.size wo wr) (fun kv _ => dt - (intOf kv).toNat)
      case atStart => exact ⟨0, rfl, Nat.zero_le _, Below.refl _ _⟩
      case round =>
        obtain ⟨wq, rfl⟩ : ∃ q : World, q = wr := ⟨_, rfl⟩
        obtain ⟨q, rfl, hq, hbel⟩ := hrel
        have BEQ := Lib.hid hbel
        have I35 := Lib.hid (IO.out.after hbel)
        clear hbel
        have b0 := (HC0.out wq I35.out.bel).1
        by_cases hqd : q < dt
        case neg =>
          obtain rfl : dt = q := by omega
          have hdq : decide ((dt : Int) < (dt : Int)) = false := by simp
          have BWQ := Lib.hid (show Below w.heap.size w wq from B2.out.trans (I35.out.bel.mono B2.out.size))
          go_wp2_with (first
            | (go_at_call 36; (with_reducible refine (awake27_any wq).mono ?_); rintro e w9 ⟨rfl, bel9⟩; have B9 := Lib.hid (BWQ.out.trans (bel9.mono BWQ.out.size)); clear bel9)
            | fail)
          go_ret
          exact ⟨rfl, B9.out⟩
        case pos =>
          have hdq : decide ((q : Int) < (dt : Int)) = true := decide_eq_true (by omega)
          have hqi : (q : Int) < (dt : Int) := by omega
          have hq0 : (0 : Int) ≤ (q : Int) := by omega
          have b1 := (HC0.out wq I35.out.bel).2
          have hal : q < a.length := by rw [HPL.out.asks.len]; exact hqd
          obtain ⟨v, hv⟩ : ∃ v, a[q]? = some v := ⟨_, List.getElem?_eq_getElem hal⟩
          have hask := I35.out.ask.1 q (.int .i64 v) (by unfold ints; rw [List.getElem?_map, hv]; rfl)
          have hvr := HPL.out.asks.val v (List.mem_of_getElem? hv)
          have HV := Lib.hid hv
          have HKT := Lib.hid (show q < tabs.length by rw [HPL.out.len]; exact hqd)
          have HTS := Lib.hid (show tabs.length ≤ 100000 ∧ ∀ l ∈ tabs, l.length ≤ 100000 from ⟨by rw [HPL.out.len]; omega, fun l hl => by have := HPL.out.small l hl; omega⟩)
          have HSMQ := Lib.hid (show ((tabs[q]?).getD []).length ≤ 100000 by rw [List.getElem?_eq_getElem HKT.out]; exact HTS.out.2 _ (List.getElem_mem HKT.out))
          have HD35 := Lib.hid (show wq.drew.cell? ⟨CB, 0, none⟩ = some (.int .i64 (dt : Int)) from b0)
          have hcbq : CB < wq.heap.size := Nat.lt_of_lt_of_le HCB2.out I35.out.bel.size
          have HQI := Lib.hid (show I64 (q : Int) from ⟨by omega, by omega⟩)
          have hbit := shr_bit64 lt q hlt9
          have HLB := Lib.hid (show lateB (lt : Int) (q : Int) = !(((lt / 2 ^ q % 2 : Nat) : Int) == 0) by unfold lateB; simp)
          have HALL := Lib.hid (show ∀ t ∈ T, ∀ c ∈ t.changes, 0 ≤ c.table ∧ c.table < (dt : Int) from fun t ht => by obtain ⟨i, hi, rfl⟩ := List.mem_iff_getElem.1 ht; exact (HTF.out i _ (List.getElem?_eq_getElem hi)).2.2.2)
          have HPT := Lib.hid (show CarPl dt (lt : Int) T T.length x a tabs by rw [← HNT.out]; exact HPL.out)
          have HSLT := Lib.hid (show IsSl txnRep wq (fun p => s3 ≤ p ∧ p < s4) At nt T from I35.out.txn)
          have HMW := Lib.hid (show ∀ t ∈ T, t.changes.length ≤ 100 ∧ ∀ c ∈ t.changes, 0 ≤ c.table ∧ c.table < (dt : Int) from fun t ht => ⟨by obtain ⟨i, hi, rfl⟩ := List.mem_iff_getElem.1 ht; have := (may_len16 (HTF.out i _ (List.getElem?_eq_getElem hi)).1).1; omega, HALL.out t ht⟩)
          clear hv
          rcases Nat.mod_two_eq_zero_or_one (lt / 2 ^ q) with hz | hz
          case inl =>
            rw [hz] at hbit HLB
            have HEND := Lib.hid (car_end HPT.out HALL.out q hqd v HV.out 1 (by rw [HLB.out]; rfl) _ rfl)
            have HCAPQ := Lib.hid (show x.capt (q : Int) = true from HEND.out.1)
            by_cases hn0 : nt = 0
            case pos =>
              have hT0 : T = [] := List.eq_nil_of_length_eq_zero (by rw [← HNT.out]; exact hn0)
              have hdn : decide ((0 : Int) < (nt : Int)) = false := decide_eq_false (by omega)
              obtain ⟨want, hwant⟩ : ∃ want : List Txn, want = [] := ⟨_, rfl⟩
              have HFE := Lib.hid (show (setAll (List.replicate dt []) (want.flatMap (·.changes)))[q]? = some (rowsC ((tabs[q]?).getD [])) by have := HEND.out.2.2; rw [if_neg (by rw [hT0]; simp)] at this; rw [hwant]; exact this)
              have HWS := Lib.hid (show IsSl txnRep wq (fun p => s3 ≤ p ∧ p < s4) none 0 want by rw [hwant]; exact IsSl.nil)
              have HWT := Lib.hid (show ∀ t ∈ want, t.changes.length ≤ 100 ∧ ∀ c ∈ t.changes, 0 ≤ c.table ∧ c.table < (dt : Int) by rw [hwant]; intro t ht; cases ht)
              clear hwant hT0
              go_upto_region 35 with fail
              refine wp_region_held_drew (S := fun w' => w'.cell? ⟨CB, 0, none⟩ = some (.int .i64 (dt : Int))) (by kernel_rfl) (HD35.out) (fun hHeld => ?_)
              (refine wpAnyH_take (i := 0) (v := ?_) rfl (by kernel_rfl) (by kernel_rfl) (by kernel_rfl) (fun _ _ _ h => h) (Or.inl ⟨by rfl, ?_⟩) hHeld ?_; rotate_left 1; focus (intro w hSw; (try dsimp only at hSw); go_simp; try with_reducible rfl)); (try simp only [Act.put, List.getElem_toArray, List.getElem_cons_zero, List.getElem_cons_succ, List.setIfInBounds_toArray, List.set_cons_zero, List.set_cons_succ])
              (refine wpAnyH_take (i := 1) (v := ?_) rfl (by kernel_rfl) (by kernel_rfl) (by kernel_rfl) (fun _ _ _ h => h) (Or.inl ⟨by rfl, ?_⟩) hHeld ?_; rotate_left 1; focus (intro w hSw; (try dsimp only at hSw); go_simp; try with_reducible rfl)); (try simp only [Act.put, List.getElem_toArray, List.getElem_cons_zero, List.getElem_cons_succ, List.setIfInBounds_toArray, List.set_cons_zero, List.set_cons_succ])
              (refine wpAnyH_take (i := 3) (v := ?_) rfl (by kernel_rfl) (by kernel_rfl) (by kernel_rfl) (fun _ _ _ h => h) (Or.inl ⟨by rfl, ?_⟩) hHeld ?_; rotate_left 1; focus (intro w hSw; (try dsimp only at hSw); go_simp; try with_reducible rfl)); (try simp only [Act.put, List.getElem_toArray, List.getElem_cons_zero, List.getElem_cons_succ, List.setIfInBounds_toArray, List.set_cons_zero, List.set_cons_succ])
              (refine wpAnyH_take (i := 4) (v := ?_) rfl (by kernel_rfl) (by kernel_rfl) (by kernel_rfl) (fun _ _ _ h => h) (Or.inl ⟨by rfl, ?_⟩) hHeld ?_; rotate_left 1; focus (intro w hSw; (try dsimp only at hSw); go_simp; try with_reducible rfl)); (try simp only [Act.put, List.getElem_toArray, List.getElem_cons_zero, List.getElem_cons_succ, List.setIfInBounds_toArray, List.set_cons_zero, List.set_cons_succ])
              (refine wpAnyH_take (i := 5) (v := ?_) rfl (by kernel_rfl) (by kernel_rfl) (by kernel_rfl) (fun _ _ _ h => h) (Or.inl ⟨by rfl, ?_⟩) hHeld ?_; rotate_left 1; focus (intro w hSw; (try dsimp only at hSw); go_simp; try with_reducible rfl)); (try simp only [Act.put, List.getElem_toArray, List.getElem_cons_zero, List.getElem_cons_succ, List.setIfInBounds_toArray, List.set_cons_zero, List.set_cons_succ])
              (refine wpAnyH_take (i := 6) (v := ?_) rfl (by kernel_rfl) (by kernel_rfl) (by kernel_rfl) (fun _ _ _ h => h) (Or.inl ⟨by rfl, ?_⟩) hHeld ?_; rotate_left 1; focus (intro w hSw; (try dsimp only at hSw); go_simp; try with_reducible rfl)); (try simp only [Act.put, List.getElem_toArray, List.getElem_cons_zero, List.getElem_cons_succ, List.setIfInBounds_toArray, List.set_cons_zero, List.set_cons_succ])
              (refine wpAnyH_take (i := 7) (v := ?_) rfl (by kernel_rfl) (by kernel_rfl) (by kernel_rfl) (fun _ _ _ h => h) (Or.inl ⟨by rfl, ?_⟩) hHeld ?_; rotate_left 1; focus (intro w hSw; (try dsimp only at hSw); go_simp; try with_reducible rfl)); (try simp only [Act.put, List.getElem_toArray, List.getElem_cons_zero, List.getElem_cons_succ, List.setIfInBounds_toArray, List.set_cons_zero, List.set_cons_succ])
              (refine wpAnyH_take (i := 9) (v := ?_) rfl (by kernel_rfl) (by kernel_rfl) (by kernel_rfl) (fun _ _ _ h => h) (Or.inl ⟨by rfl, ?_⟩) hHeld ?_; rotate_left 1; focus (intro w hSw; (try dsimp only at hSw); go_simp; try with_reducible rfl)); (try simp only [Act.put, List.getElem_toArray, List.getElem_cons_zero, List.getElem_cons_succ, List.setIfInBounds_toArray, List.set_cons_zero, List.set_cons_succ])
              refine wpAnyH_ready (rs := [2]) (by kernel_rfl) (by simp) ?_
              refine AllReadyH.cons rfl (fun K hK => ?_) AllReadyH.nil
              go_simp
              (go_at_call 34; (with_reducible refine (reprows_any gs bt U tabs q (q : Int) rfl wq.drew (I35.out.after (below_of_drew0 (Below.refl _ _))).rep HKT.out HTS.out.1 HTS.out.2).mono ?_); rintro e w35 ⟨v35, rfl, own35, bel35⟩; obtain ⟨A35, c35, rfl, _, _, sl35⟩ := own35.isSlR; obtain ⟨n35, hn35⟩ : ∃ n35, n35 = (rowsC ((tabs[q]?).getD [])).length := ⟨_, rfl⟩; rw [← hn35] at sl35 ⊢; have HN35 := Lib.hid hn35; have SL35 := Lib.hid sl35; have B35 := Lib.hid (below_of_drew bel35); have SLR := Lib.hid (show wq.heap.size ≤ w35.heap.size from bel35.size); have HE35 := Lib.hid (show w35.cell? ⟨CB, 0, none⟩ = some (.int .i64 (dt : Int)) from (bel35.cell (p := ⟨CB, 0, none⟩) hcbq).trans HD35.out); clear own35 bel35 sl35 hn35)
              refine hK.out _ _ (HE35.out) (fun hHeld2 => ?_)
              clear hK K hHeld; have hHeld := hHeld2; clear hHeld2; (try simp only [Act.put, List.getElem_toArray, List.getElem_cons_zero, List.getElem_cons_succ, List.setIfInBounds_toArray, List.set_cons_zero, List.set_cons_succ])
              refine wpAnyH_ready (rs := [8]) (by kernel_rfl) (by simp) ?_
              refine AllReadyH.cons rfl (fun K hK => ?_) AllReadyH.nil
              go_simp
              (go_at_call 35; (with_reducible refine (reffold_any dt (by omega) (by omega) (none) (0) (0) rfl (0) want w35 (fun p => s3 ≤ p ∧ p < s4) (fun p hp => Nat.lt_of_lt_of_le (I35.out.hS _ (I35.out.inS.2.2.2 _ hp)) B35.out.size) (HWS.out.keep (fun p hp => B35.out.cell (I35.out.hS _ (I35.out.inS.2.2.2 _ hp)))) (by omega) HWT.out).mono ?_); rintro e w36 ⟨U36, g36, b36, rfl, st36, hg36, hb36, hu36, bel36⟩; have ST36 := Lib.hid st36; have HB36 := Lib.hid (And.intro hg36 (And.intro hb36 hu36)); have B36 := Lib.hid (B35.out.trans (bel36.mono B35.out.size)); have SLF := Lib.hid (show IsSl rowRep w36 (· < w36.heap.size) A35 n35 (rowsC ((tabs[q]?).getD [])) from (SL35.out.keep (fun p hp => bel36.cell hp.2)).weak (fun p hp => Nat.lt_of_lt_of_le hp.2 bel36.size)); have HF36 := Lib.hid (show w36.cell? ⟨CB, 0, none⟩ = some (.int .i64 (dt : Int)) from (bel36.cell (p := ⟨CB, 0, none⟩) (Nat.lt_of_lt_of_le hcbq SLR.out)).trans HE35.out); clear st36 hg36 hb36 hu36 bel36)
              refine hK.out _ _ (HF36.out) (fun hHeld2 => ?_)
              clear hK K hHeld; have hHeld := hHeld2; clear hHeld2; (try simp only [Act.put, List.getElem_toArray, List.getElem_cons_zero, List.getElem_cons_succ, List.setIfInBounds_toArray, List.set_cons_zero, List.set_cons_succ])
              have HN5 := Lib.hid (show n35 ≤ 281474976710656 by rw [HN35.out]; have := rowsC_len ((tabs[q]?).getD []); have := HSMQ.out; omega)
              obtain ⟨vs38, kb38, kv38, kall38⟩ := ST36.out.tab
              obtain ⟨A38, m38, c38, hv38, sl38, hc38, hm38⟩ := kall38 q _ HFE.out
              have cc38 := kb38.1 q _ hv38
              have SL38 := Lib.hid (show IsSl rowRep w36 (· < w36.heap.size) A38 m38 (rowsC ((tabs[q]?).getD [])) from sl38.weak (fun p hp => ST36.out.hU p hp))
              clear kb38 kv38 kall38 hv38 sl38 hc38 hm38 vs38
              refine wpAnyH_ready (rs := [10]) (by kernel_rfl) (by simp) ?_
              refine AllReadyH.cons rfl (fun K hK => ?_) AllReadyH.nil
              go_simp
              refine hK.out _ _ (HF36.out) (fun hHeld2 => ?_)
              clear hK K hHeld; have hHeld := hHeld2; clear hHeld2; (try simp only [Act.put, List.getElem_toArray, List.getElem_cons_zero, List.getElem_cons_succ, List.setIfInBounds_toArray, List.set_cons_zero, List.set_cons_succ])
              refine wpAnyH_ready (rs := [11]) (by kernel_rfl) (by simp) ?_
              refine AllReadyH.cons rfl (fun K hK => ?_) AllReadyH.nil
              go_simp
              refine hK.out _ _ (HF36.out) (fun hHeld2 => ?_)
              clear hK K hHeld; have hHeld := hHeld2; clear hHeld2; (try simp only [Act.put, List.getElem_toArray, List.getElem_cons_zero, List.getElem_cons_succ, List.setIfInBounds_toArray, List.set_cons_zero, List.set_cons_succ])
              refine wpAnyH_ready (rs := [12]) (by kernel_rfl) (by simp) ?_
              refine AllReadyH.cons rfl (fun K hK => ?_) AllReadyH.nil
              go_simp
              (go_at_call 33; (with_reducible refine (plain_row A35 A38 n35 m38 c35 c38 _ w36 SLF.out SL38.out HN5.out).mono ?_); rintro e w39 ⟨rfl, bel39⟩; have B39 := Lib.hid (B36.out.trans (bel39.mono B36.out.size)); have HF39 := Lib.hid (show w39.cell? ⟨CB, 0, none⟩ = some (.int .i64 (dt : Int)) from (bel39.cell (p := ⟨CB, 0, none⟩) (Nat.lt_of_lt_of_le hcbq B36.out.size)).trans HF36.out); clear bel39)
              refine hK.out _ _ (HF39.out) (fun hHeld2 => ?_)
              clear hK K hHeld; have hHeld := hHeld2; clear hHeld2; (try simp only [Act.put, List.getElem_toArray, List.getElem_cons_zero, List.getElem_cons_succ, List.setIfInBounds_toArray, List.set_cons_zero, List.set_cons_succ])
              (refine wpAnyH_take (i := 13) (v := ?_) rfl (by kernel_rfl) (by kernel_rfl) (by kernel_rfl) (fun _ _ _ h => h) (Or.inl ⟨by rfl, ?_⟩) hHeld ?_; rotate_left 1; focus (intro w hSw; (try dsimp only at hSw); go_simp; try with_reducible rfl)); (try simp only [Act.put, List.getElem_toArray, List.getElem_cons_zero, List.getElem_cons_succ, List.setIfInBounds_toArray, List.set_cons_zero, List.set_cons_succ])
              (refine wpAnyH_take (i := 14) (v := ?_) rfl (by kernel_rfl) (by kernel_rfl) (by kernel_rfl) (fun _ _ _ h => h) (Or.inl ⟨by rfl, ?_⟩) hHeld ?_; rotate_left 1; focus (intro w hSw; (try dsimp only at hSw); go_simp; try with_reducible rfl)); (try simp only [Act.put, List.getElem_toArray, List.getElem_cons_zero, List.getElem_cons_succ, List.setIfInBounds_toArray, List.set_cons_zero, List.set_cons_succ])
              (refine wpAnyH_take (i := 15) (v := ?_) rfl (by kernel_rfl) (by kernel_rfl) (by kernel_rfl) (fun _ _ _ h => h) (Or.inl ⟨by rfl, ?_⟩) hHeld ?_; rotate_left 1; focus (intro w hSw; (try dsimp only at hSw); go_simp; try with_reducible rfl)); (try simp only [Act.put, List.getElem_toArray, List.getElem_cons_zero, List.getElem_cons_succ, List.setIfInBounds_toArray, List.set_cons_zero, List.set_cons_succ])
              (refine wpAnyH_take (i := 16) (v := ?_) rfl (by kernel_rfl) (by kernel_rfl) (by kernel_rfl) (fun _ _ _ h => h) (Or.inl ⟨by rfl, ?_⟩) hHeld ?_; rotate_left 1; focus (intro w hSw; (try dsimp only at hSw); go_simp; try with_reducible rfl)); (try simp only [Act.put, List.getElem_toArray, List.getElem_cons_zero, List.getElem_cons_succ, List.setIfInBounds_toArray, List.set_cons_zero, List.set_cons_succ])
              (refine wpAnyH_take (i := 18) (v := ?_) rfl (by kernel_rfl) (by kernel_rfl) (by kernel_rfl) (fun _ _ _ h => h) (Or.inl ⟨by rfl, ?_⟩) hHeld ?_; rotate_left 1; focus (intro w hSw; (try dsimp only at hSw); go_simp; try with_reducible rfl)); (try simp only [Act.put, List.getElem_toArray, List.getElem_cons_zero, List.getElem_cons_succ, List.setIfInBounds_toArray, List.set_cons_zero, List.set_cons_succ])
              (refine wpAnyH_take (i := 19) (v := ?_) rfl (by kernel_rfl) (by kernel_rfl) (by kernel_rfl) (fun _ _ _ h => h) (Or.inl ⟨by rfl, ?_⟩) hHeld ?_; rotate_left 1; focus (intro w hSw; (try dsimp only at hSw); go_simp; try with_reducible rfl)); (try simp only [Act.put, List.getElem_toArray, List.getElem_cons_zero, List.getElem_cons_succ, List.setIfInBounds_toArray, List.set_cons_zero, List.set_cons_succ])
              refine wpAnyH_ready (rs := [17]) (by kernel_rfl) (by simp) ?_
              refine AllReadyH.cons rfl (fun K hK => ?_) AllReadyH.nil
              go_simp
              (go_at_call 30; (with_reducible refine (muxCapt_any S gm g x w39 (I35.out.after B39.out).own HPL.out.fine (q : Int) HQI.out).mono ?_); rintro e w40 ⟨rfl, bel40⟩; rw [HCAPQ.out]; have B40 := Lib.hid (B39.out.trans (bel40.mono B39.out.size)); have HF40 := Lib.hid (show w40.cell? ⟨CB, 0, none⟩ = some (.int .i64 (dt : Int)) from (bel40.cell (p := ⟨CB, 0, none⟩) (Nat.lt_of_lt_of_le hcbq B39.out.size)).trans HF39.out); clear bel40)
              refine hK.out _ _ (HF40.out) (fun hHeld2 => ?_)
              clear hK K hHeld; have hHeld := hHeld2; clear hHeld2; (try simp only [Act.put, List.getElem_toArray, List.getElem_cons_zero, List.getElem_cons_succ, List.setIfInBounds_toArray, List.set_cons_zero, List.set_cons_succ])
              (refine wpAnyH_take (i := 20) (v := ?_) rfl (by kernel_rfl) (by kernel_rfl) (by kernel_rfl) (fun _ _ _ h => h) (Or.inl ⟨by rfl, ?_⟩) hHeld ?_; rotate_left 1; focus (intro w hSw; (try dsimp only at hSw); go_simp; try with_reducible rfl)); (try simp only [Act.put, List.getElem_toArray, List.getElem_cons_zero, List.getElem_cons_succ, List.setIfInBounds_toArray, List.set_cons_zero, List.set_cons_succ])
              (refine wpAnyH_take (i := 21) (v := ?_) rfl (by kernel_rfl) (by kernel_rfl) (by kernel_rfl) (fun _ _ _ h => h) (Or.inl ⟨by rfl, ?_⟩) hHeld ?_; rotate_left 1; focus (intro w hSw; (try dsimp only at hSw); go_simp; try with_reducible rfl)); (try simp only [Act.put, List.getElem_toArray, List.getElem_cons_zero, List.getElem_cons_succ, List.setIfInBounds_toArray, List.set_cons_zero, List.set_cons_succ])
              refine wpAnyH_done (by kernel_rfl) ?_ _
              go_wp2_with fail
              go_roundw
              case rel => exact ⟨q + 1, by go_num, by omega, BEQ.out.trans (B40.out.mono BEQ.out.size)⟩
              case measure => simp [intOf]; omega
            case neg =>
              have hdn : decide ((0 : Int) < (nt : Int)) = true := decide_eq_true (by omega)
              have hns : T ≠ [] := fun e => hn0 (by rw [HNT.out, e]; rfl)
              obtain ⟨want, hwant⟩ : ∃ want : List Txn, want = T.drop 0 := ⟨_, rfl⟩
              have HFE := Lib.hid (show (setAll (List.replicate dt []) (want.flatMap (·.changes)))[q]? = some (rowsC ((tabs[q]?).getD [])) by have := HEND.out.2.2; rw [if_pos ⟨by decide, hns⟩] at this; rw [hwant]; exact this)
              have HWT := Lib.hid (show ∀ t ∈ want, t.changes.length ≤ 100 ∧ ∀ c ∈ t.changes, 0 ≤ c.table ∧ c.table < (dt : Int) by rw [hwant]; exact fun t ht => HMW.out t (List.mem_of_mem_drop ht))
              have HWS := Lib.hid (show IsSl txnRep wq (fun p => s3 ≤ p ∧ p < s4) At nt want by rw [hwant]; exact HSLT.out)
              have hw0 : IntKind.i64.wrap ((1 : Int) - 1) = 0 := by decide
              clear hwant hns
              go_upto_region 35 with fail
              refine wp_region_held_drew (S := fun w' => w'.cell? ⟨CB, 0, none⟩ = some (.int .i64 (dt : Int))) (by kernel_rfl) (HD35.out) (fun hHeld => ?_)
              (refine wpAnyH_take (i := 0) (v := ?_) rfl (by kernel_rfl) (by kernel_rfl) (by kernel_rfl) (fun _ _ _ h => h) (Or.inl ⟨by rfl, ?_⟩) hHeld ?_; rotate_left 1; focus (intro w hSw; (try dsimp only at hSw); go_simp; try with_reducible rfl)); (try simp only [Act.put, List.getElem_toArray, List.getElem_cons_zero, List.getElem_cons_succ, List.setIfInBounds_toArray, List.set_cons_zero, List.set_cons_succ])
              (refine wpAnyH_take (i := 1) (v := ?_) rfl (by kernel_rfl) (by kernel_rfl) (by kernel_rfl) (fun _ _ _ h => h) (Or.inl ⟨by rfl, ?_⟩) hHeld ?_; rotate_left 1; focus (intro w hSw; (try dsimp only at hSw); go_simp; try with_reducible rfl)); (try simp only [Act.put, List.getElem_toArray, List.getElem_cons_zero, List.getElem_cons_succ, List.setIfInBounds_toArray, List.set_cons_zero, List.set_cons_succ])
              (refine wpAnyH_take (i := 3) (v := ?_) rfl (by kernel_rfl) (by kernel_rfl) (by kernel_rfl) (fun _ _ _ h => h) (Or.inl ⟨by rfl, ?_⟩) hHeld ?_; rotate_left 1; focus (intro w hSw; (try dsimp only at hSw); go_simp; try with_reducible rfl)); (try simp only [Act.put, List.getElem_toArray, List.getElem_cons_zero, List.getElem_cons_succ, List.setIfInBounds_toArray, List.set_cons_zero, List.set_cons_succ])
              (refine wpAnyH_take (i := 4) (v := ?_) rfl (by kernel_rfl) (by kernel_rfl) (by kernel_rfl) (fun _ _ _ h => h) (Or.inl ⟨by rfl, ?_⟩) hHeld ?_; rotate_left 1; focus (intro w hSw; (try dsimp only at hSw); go_simp; try with_reducible rfl)); (try simp only [Act.put, List.getElem_toArray, List.getElem_cons_zero, List.getElem_cons_succ, List.setIfInBounds_toArray, List.set_cons_zero, List.set_cons_succ])
              (refine wpAnyH_take (i := 5) (v := ?_) rfl (by kernel_rfl) (by kernel_rfl) (by kernel_rfl) (fun _ _ _ h => h) (Or.inl ⟨by rfl, ?_⟩) hHeld ?_; rotate_left 1; focus (intro w hSw; (try dsimp only at hSw); go_simp; try with_reducible rfl)); (try simp only [Act.put, List.getElem_toArray, List.getElem_cons_zero, List.getElem_cons_succ, List.setIfInBounds_toArray, List.set_cons_zero, List.set_cons_succ])
              (refine wpAnyH_take (i := 6) (v := ?_) rfl (by kernel_rfl) (by kernel_rfl) (by kernel_rfl) (fun _ _ _ h => h) (Or.inl ⟨by rfl, ?_⟩) hHeld ?_; rotate_left 1; focus (intro w hSw; (try dsimp only at hSw); go_simp; try with_reducible rfl)); (try simp only [Act.put, List.getElem_toArray, List.getElem_cons_zero, List.getElem_cons_succ, List.setIfInBounds_toArray, List.set_cons_zero, List.set_cons_succ])
              (refine wpAnyH_take (i := 7) (v := ?_) rfl (by kernel_rfl) (by kernel_rfl) (by kernel_rfl) (fun _ _ _ h => h) (Or.inl ⟨by rfl, ?_⟩) hHeld ?_; rotate_left 1; focus (intro w hSw; (try dsimp only at hSw); go_simp; try with_reducible rfl)); (try simp only [Act.put, List.getElem_toArray, List.getElem_cons_zero, List.getElem_cons_succ, List.setIfInBounds_toArray, List.set_cons_zero, List.set_cons_succ])
              (refine wpAnyH_take (i := 9) (v := ?_) rfl (by kernel_rfl) (by kernel_rfl) (by kernel_rfl) (fun _ _ _ h => h) (Or.inl ⟨by rfl, ?_⟩) hHeld ?_; rotate_left 1; focus (intro w hSw; (try dsimp only at hSw); go_simp; try with_reducible rfl)); (try simp only [Act.put, List.getElem_toArray, List.getElem_cons_zero, List.getElem_cons_succ, List.setIfInBounds_toArray, List.set_cons_zero, List.set_cons_succ])
              refine wpAnyH_ready (rs := [2]) (by kernel_rfl) (by simp) ?_
              refine AllReadyH.cons rfl (fun K hK => ?_) AllReadyH.nil
              go_simp
              (go_at_call 34; (with_reducible refine (reprows_any gs bt U tabs q (q : Int) rfl wq.drew (I35.out.after (below_of_drew0 (Below.refl _ _))).rep HKT.out HTS.out.1 HTS.out.2).mono ?_); rintro e w35 ⟨v35, rfl, own35, bel35⟩; obtain ⟨A35, c35, rfl, _, _, sl35⟩ := own35.isSlR; obtain ⟨n35, hn35⟩ : ∃ n35, n35 = (rowsC ((tabs[q]?).getD [])).length := ⟨_, rfl⟩; rw [← hn35] at sl35 ⊢; have HN35 := Lib.hid hn35; have SL35 := Lib.hid sl35; have B35 := Lib.hid (below_of_drew bel35); have SLR := Lib.hid (show wq.heap.size ≤ w35.heap.size from bel35.size); have HE35 := Lib.hid (show w35.cell? ⟨CB, 0, none⟩ = some (.int .i64 (dt : Int)) from (bel35.cell (p := ⟨CB, 0, none⟩) hcbq).trans HD35.out); clear own35 bel35 sl35 hn35)
              refine hK.out _ _ (HE35.out) (fun hHeld2 => ?_)
              clear hK K hHeld; have hHeld := hHeld2; clear hHeld2; (try simp only [Act.put, List.getElem_toArray, List.getElem_cons_zero, List.getElem_cons_succ, List.setIfInBounds_toArray, List.set_cons_zero, List.set_cons_succ])
              refine wpAnyH_ready (rs := [8]) (by kernel_rfl) (by simp) ?_
              refine AllReadyH.cons rfl (fun K hK => ?_) AllReadyH.nil
              go_simp
              (go_at_call 35; (with_reducible refine (reffold_any dt (by omega) (by omega) (At) (nt) ((nt : Int)) rfl (ct) want w35 (fun p => s3 ≤ p ∧ p < s4) (fun p hp => Nat.lt_of_lt_of_le (I35.out.hS _ (I35.out.inS.2.2.2 _ hp)) B35.out.size) (HWS.out.keep (fun p hp => B35.out.cell (I35.out.hS _ (I35.out.inS.2.2.2 _ hp)))) (by omega) HWT.out).mono ?_); rintro e w36 ⟨U36, g36, b36, rfl, st36, hg36, hb36, hu36, bel36⟩; have ST36 := Lib.hid st36; have HB36 := Lib.hid (And.intro hg36 (And.intro hb36 hu36)); have B36 := Lib.hid (B35.out.trans (bel36.mono B35.out.size)); have SLF := Lib.hid (show IsSl rowRep w36 (· < w36.heap.size) A35 n35 (rowsC ((tabs[q]?).getD [])) from (SL35.out.keep (fun p hp => bel36.cell hp.2)).weak (fun p hp => Nat.lt_of_lt_of_le hp.2 bel36.size)); have HF36 := Lib.hid (show w36.cell? ⟨CB, 0, none⟩ = some (.int .i64 (dt : Int)) from (bel36.cell (p := ⟨CB, 0, none⟩) (Nat.lt_of_lt_of_le hcbq SLR.out)).trans HE35.out); clear st36 hg36 hb36 hu36 bel36)
              refine hK.out _ _ (HF36.out) (fun hHeld2 => ?_)
              clear hK K hHeld; have hHeld := hHeld2; clear hHeld2; (try simp only [Act.put, List.getElem_toArray, List.getElem_cons_zero, List.getElem_cons_succ, List.setIfInBounds_toArray, List.set_cons_zero, List.set_cons_succ])
              have HN5 := Lib.hid (show n35 ≤ 281474976710656 by rw [HN35.out]; have := rowsC_len ((tabs[q]?).getD []); have := HSMQ.out; omega)
              obtain ⟨vs38, kb38, kv38, kall38⟩ := ST36.out.tab
              obtain ⟨A38, m38, c38, hv38, sl38, hc38, hm38⟩ := kall38 q _ HFE.out
              have cc38 := kb38.1 q _ hv38
              have SL38 := Lib.hid (show IsSl rowRep w36 (· < w36.heap.size) A38 m38 (rowsC ((tabs[q]?).getD [])) from sl38.weak (fun p hp => ST36.out.hU p hp))
              clear kb38 kv38 kall38 hv38 sl38 hc38 hm38 vs38
              refine wpAnyH_ready (rs := [10]) (by kernel_rfl) (by simp) ?_
              refine AllReadyH.cons rfl (fun K hK => ?_) AllReadyH.nil
              go_simp
              refine hK.out _ _ (HF36.out) (fun hHeld2 => ?_)
              clear hK K hHeld; have hHeld := hHeld2; clear hHeld2; (try simp only [Act.put, List.getElem_toArray, List.getElem_cons_zero, List.getElem_cons_succ, List.setIfInBounds_toArray, List.set_cons_zero, List.set_cons_succ])
              refine wpAnyH_ready (rs := [11]) (by kernel_rfl) (by simp) ?_
              refine AllReadyH.cons rfl (fun K hK => ?_) AllReadyH.nil
              go_simp
              refine hK.out _ _ (HF36.out) (fun hHeld2 => ?_)
              clear hK K hHeld; have hHeld := hHeld2; clear hHeld2; (try simp only [Act.put, List.getElem_toArray, List.getElem_cons_zero, List.getElem_cons_succ, List.setIfInBounds_toArray, List.set_cons_zero, List.set_cons_succ])
              refine wpAnyH_ready (rs := [12]) (by kernel_rfl) (by simp) ?_
              refine AllReadyH.cons rfl (fun K hK => ?_) AllReadyH.nil
              go_simp
              (go_at_call 33; (with_reducible refine (plain_row A35 A38 n35 m38 c35 c38 _ w36 SLF.out SL38.out HN5.out).mono ?_); rintro e w39 ⟨rfl, bel39⟩; have B39 := Lib.hid (B36.out.trans (bel39.mono B36.out.size)); have HF39 := Lib.hid (show w39.cell? ⟨CB, 0, none⟩ = some (.int .i64 (dt : Int)) from (bel39.cell (p := ⟨CB, 0, none⟩) (Nat.lt_of_lt_of_le hcbq B36.out.size)).trans HF36.out); clear bel39)
              refine hK.out _ _ (HF39.out) (fun hHeld2 => ?_)
              clear hK K hHeld; have hHeld := hHeld2; clear hHeld2; (try simp only [Act.put, List.getElem_toArray, List.getElem_cons_zero, List.getElem_cons_succ, List.setIfInBounds_toArray, List.set_cons_zero, List.set_cons_succ])
              (refine wpAnyH_take (i := 13) (v := ?_) rfl (by kernel_rfl) (by kernel_rfl) (by kernel_rfl) (fun _ _ _ h => h) (Or.inl ⟨by rfl, ?_⟩) hHeld ?_; rotate_left 1; focus (intro w hSw; (try dsimp only at hSw); go_simp; try with_reducible rfl)); (try simp only [Act.put, List.getElem_toArray, List.getElem_cons_zero, List.getElem_cons_succ, List.setIfInBounds_toArray, List.set_cons_zero, List.set_cons_succ])
              (refine wpAnyH_take (i := 14) (v := ?_) rfl (by kernel_rfl) (by kernel_rfl) (by kernel_rfl) (fun _ _ _ h => h) (Or.inl ⟨by rfl, ?_⟩) hHeld ?_; rotate_left 1; focus (intro w hSw; (try dsimp only at hSw); go_simp; try with_reducible rfl)); (try simp only [Act.put, List.getElem_toArray, List.getElem_cons_zero, List.getElem_cons_succ, List.setIfInBounds_toArray, List.set_cons_zero, List.set_cons_succ])
              (refine wpAnyH_take (i := 15) (v := ?_) rfl (by kernel_rfl) (by kernel_rfl) (by kernel_rfl) (fun _ _ _ h => h) (Or.inl ⟨by rfl, ?_⟩) hHeld ?_; rotate_left 1; focus (intro w hSw; (try dsimp only at hSw); go_simp; try with_reducible rfl)); (try simp only [Act.put, List.getElem_toArray, List.getElem_cons_zero, List.getElem_cons_succ, List.setIfInBounds_toArray, List.set_cons_zero, List.set_cons_succ])
              (refine wpAnyH_take (i := 16) (v := ?_) rfl (by kernel_rfl) (by kernel_rfl) (by kernel_rfl) (fun _ _ _ h => h) (Or.inl ⟨by rfl, ?_⟩) hHeld ?_; rotate_left 1; focus (intro w hSw; (try dsimp only at hSw); go_simp; try with_reducible rfl)); (try simp only [Act.put, List.getElem_toArray, List.getElem_cons_zero, List.getElem_cons_succ, List.setIfInBounds_toArray, List.set_cons_zero, List.set_cons_succ])
              (refine wpAnyH_take (i := 18) (v := ?_) rfl (by kernel_rfl) (by kernel_rfl) (by kernel_rfl) (fun _ _ _ h => h) (Or.inl ⟨by rfl, ?_⟩) hHeld ?_; rotate_left 1; focus (intro w hSw; (try dsimp only at hSw); go_simp; try with_reducible rfl)); (try simp only [Act.put, List.getElem_toArray, List.getElem_cons_zero, List.getElem_cons_succ, List.setIfInBounds_toArray, List.set_cons_zero, List.set_cons_succ])
              (refine wpAnyH_take (i := 19) (v := ?_) rfl (by kernel_rfl) (by kernel_rfl) (by kernel_rfl) (fun _ _ _ h => h) (Or.inl ⟨by rfl, ?_⟩) hHeld ?_; rotate_left 1; focus (intro w hSw; (try dsimp only at hSw); go_simp; try with_reducible rfl)); (try simp only [Act.put, List.getElem_toArray, List.getElem_cons_zero, List.getElem_cons_succ, List.setIfInBounds_toArray, List.set_cons_zero, List.set_cons_succ])
              refine wpAnyH_ready (rs := [17]) (by kernel_rfl) (by simp) ?_
              refine AllReadyH.cons rfl (fun K hK => ?_) AllReadyH.nil
              go_simp
              (go_at_call 30; (with_reducible refine (muxCapt_any S gm g x w39 (I35.out.after B39.out).own HPL.out.fine (q : Int) HQI.out).mono ?_); rintro e w40 ⟨rfl, bel40⟩; rw [HCAPQ.out]; have B40 := Lib.hid (B39.out.trans (bel40.mono B39.out.size)); have HF40 := Lib.hid (show w40.cell? ⟨CB, 0, none⟩ = some (.int .i64 (dt : Int)) from (bel40.cell (p := ⟨CB, 0, none⟩) (Nat.lt_of_lt_of_le hcbq B39.out.size)).trans HF39.out); clear bel40)
              refine hK.out _ _ (HF40.out) (fun hHeld2 => ?_)
              clear hK K hHeld; have hHeld := hHeld2; clear hHeld2; (try simp only [Act.put, List.getElem_toArray, List.getElem_cons_zero, List.getElem_cons_succ, List.setIfInBounds_toArray, List.set_cons_zero, List.set_cons_succ])
              (refine wpAnyH_take (i := 20) (v := ?_) rfl (by kernel_rfl) (by kernel_rfl) (by kernel_rfl) (fun _ _ _ h => h) (Or.inl ⟨by rfl, ?_⟩) hHeld ?_; rotate_left 1; focus (intro w hSw; (try dsimp only at hSw); go_simp; try with_reducible rfl)); (try simp only [Act.put, List.getElem_toArray, List.getElem_cons_zero, List.getElem_cons_succ, List.setIfInBounds_toArray, List.set_cons_zero, List.set_cons_succ])
              (refine wpAnyH_take (i := 21) (v := ?_) rfl (by kernel_rfl) (by kernel_rfl) (by kernel_rfl) (fun _ _ _ h => h) (Or.inl ⟨by rfl, ?_⟩) hHeld ?_; rotate_left 1; focus (intro w hSw; (try dsimp only at hSw); go_simp; try with_reducible rfl)); (try simp only [Act.put, List.getElem_toArray, List.getElem_cons_zero, List.getElem_cons_succ, List.setIfInBounds_toArray, List.set_cons_zero, List.set_cons_succ])
              refine wpAnyH_done (by kernel_rfl) ?_ _
              go_wp2_with fail
              go_roundw
              case rel => exact ⟨q + 1, by go_num, by omega, BEQ.out.trans (B40.out.mono BEQ.out.size)⟩
              case measure => simp [intOf]; omega
          case inr =>
            rw [hz] at hbit HLB
            have HEND := Lib.hid (car_end HPT.out HALL.out q hqd v HV.out v (by rw [HLB.out]; rfl) _ rfl)
            by_cases hv0 : v = 0
            case pos =>
              subst hv0
              have HCAPQ := Lib.hid (show x.capt (q : Int) = false from HEND.out.1)
              obtain ⟨want, hwant⟩ : ∃ want : List Txn, want = [] := ⟨_, rfl⟩
              have HFE := Lib.hid (show (setAll (List.replicate dt []) (want.flatMap (·.changes)))[q]? = some (rowsC ((tabs[q]?).getD [])) by have := HEND.out.2.2; rw [if_neg (by simp)] at this; rw [hwant]; exact this)
              have HWS := Lib.hid (show IsSl txnRep wq (fun p => s3 ≤ p ∧ p < s4) none 0 want by rw [hwant]; exact IsSl.nil)
              have HWT := Lib.hid (show ∀ t ∈ want, t.changes.length ≤ 100 ∧ ∀ c ∈ t.changes, 0 ≤ c.table ∧ c.table < (dt : Int) by rw [hwant]; intro t ht; cases ht)
              clear hwant
              go_upto_region 35 with fail
              refine wp_region_held_drew (S := fun w' => w'.cell? ⟨CB, 0, none⟩ = some (.int .i64 (dt : Int))) (by kernel_rfl) (HD35.out) (fun hHeld => ?_)
              (refine wpAnyH_take (i := 0) (v := ?_) rfl (by kernel_rfl) (by kernel_rfl) (by kernel_rfl) (fun _ _ _ h => h) (Or.inl ⟨by rfl, ?_⟩) hHeld ?_; rotate_left 1; focus (intro w hSw; (try dsimp only at hSw); go_simp; try with_reducible rfl)); (try simp only [Act.put, List.getElem_toArray, List.getElem_cons_zero, List.getElem_cons_succ, List.setIfInBounds_toArray, List.set_cons_zero, List.set_cons_succ])
              (refine wpAnyH_take (i := 1) (v := ?_) rfl (by kernel_rfl) (by kernel_rfl) (by kernel_rfl) (fun _ _ _ h => h) (Or.inl ⟨by rfl, ?_⟩) hHeld ?_; rotate_left 1; focus (intro w hSw; (try dsimp only at hSw); go_simp; try with_reducible rfl)); (try simp only [Act.put, List.getElem_toArray, List.getElem_cons_zero, List.getElem_cons_succ, List.setIfInBounds_toArray, List.set_cons_zero, List.set_cons_succ])
              (refine wpAnyH_take (i := 3) (v := ?_) rfl (by kernel_rfl) (by kernel_rfl) (by kernel_rfl) (fun _ _ _ h => h) (Or.inl ⟨by rfl, ?_⟩) hHeld ?_; rotate_left 1; focus (intro w hSw; (try dsimp only at hSw); go_simp; try with_reducible rfl)); (try simp only [Act.put, List.getElem_toArray, List.getElem_cons_zero, List.getElem_cons_succ, List.setIfInBounds_toArray, List.set_cons_zero, List.set_cons_succ])
              (refine wpAnyH_take (i := 4) (v := ?_) rfl (by kernel_rfl) (by kernel_rfl) (by kernel_rfl) (fun _ _ _ h => h) (Or.inl ⟨by rfl, ?_⟩) hHeld ?_; rotate_left 1; focus (intro w hSw; (try dsimp only at hSw); go_simp; try with_reducible rfl)); (try simp only [Act.put, List.getElem_toArray, List.getElem_cons_zero, List.getElem_cons_succ, List.setIfInBounds_toArray, List.set_cons_zero, List.set_cons_succ])
              (refine wpAnyH_take (i := 5) (v := ?_) rfl (by kernel_rfl) (by kernel_rfl) (by kernel_rfl) (fun _ _ _ h => h) (Or.inl ⟨by rfl, ?_⟩) hHeld ?_; rotate_left 1; focus (intro w hSw; (try dsimp only at hSw); go_simp; try with_reducible rfl)); (try simp only [Act.put, List.getElem_toArray, List.getElem_cons_zero, List.getElem_cons_succ, List.setIfInBounds_toArray, List.set_cons_zero, List.set_cons_succ])
              (refine wpAnyH_take (i := 6) (v := ?_) rfl (by kernel_rfl) (by kernel_rfl) (by kernel_rfl) (fun _ _ _ h => h) (Or.inl ⟨by rfl, ?_⟩) hHeld ?_; rotate_left 1; focus (intro w hSw; (try dsimp only at hSw); go_simp; try with_reducible rfl)); (try simp only [Act.put, List.getElem_toArray, List.getElem_cons_zero, List.getElem_cons_succ, List.setIfInBounds_toArray, List.set_cons_zero, List.set_cons_succ])
              (refine wpAnyH_take (i := 7) (v := ?_) rfl (by kernel_rfl) (by kernel_rfl) (by kernel_rfl) (fun _ _ _ h => h) (Or.inl ⟨by rfl, ?_⟩) hHeld ?_; rotate_left 1; focus (intro w hSw; (try dsimp only at hSw); go_simp; try with_reducible rfl)); (try simp only [Act.put, List.getElem_toArray, List.getElem_cons_zero, List.getElem_cons_succ, List.setIfInBounds_toArray, List.set_cons_zero, List.set_cons_succ])
              (refine wpAnyH_take (i := 9) (v := ?_) rfl (by kernel_rfl) (by kernel_rfl) (by kernel_rfl) (fun _ _ _ h => h) (Or.inl ⟨by rfl, ?_⟩) hHeld ?_; rotate_left 1; focus (intro w hSw; (try dsimp only at hSw); go_simp; try with_reducible rfl)); (try simp only [Act.put, List.getElem_toArray, List.getElem_cons_zero, List.getElem_cons_succ, List.setIfInBounds_toArray, List.set_cons_zero, List.set_cons_succ])
              refine wpAnyH_ready (rs := [2]) (by kernel_rfl) (by simp) ?_
              refine AllReadyH.cons rfl (fun K hK => ?_) AllReadyH.nil
              go_simp
              (go_at_call 34; (with_reducible refine (reprows_any gs bt U tabs q (q : Int) rfl wq.drew (I35.out.after (below_of_drew0 (Below.refl _ _))).rep HKT.out HTS.out.1 HTS.out.2).mono ?_); rintro e w35 ⟨v35, rfl, own35, bel35⟩; obtain ⟨A35, c35, rfl, _, _, sl35⟩ := own35.isSlR; obtain ⟨n35, hn35⟩ : ∃ n35, n35 = (rowsC ((tabs[q]?).getD [])).length := ⟨_, rfl⟩; rw [← hn35] at sl35 ⊢; have HN35 := Lib.hid hn35; have SL35 := Lib.hid sl35; have B35 := Lib.hid (below_of_drew bel35); have SLR := Lib.hid (show wq.heap.size ≤ w35.heap.size from bel35.size); have HE35 := Lib.hid (show w35.cell? ⟨CB, 0, none⟩ = some (.int .i64 (dt : Int)) from (bel35.cell (p := ⟨CB, 0, none⟩) hcbq).trans HD35.out); clear own35 bel35 sl35 hn35)
              refine hK.out _ _ (HE35.out) (fun hHeld2 => ?_)
              clear hK K hHeld; have hHeld := hHeld2; clear hHeld2; (try simp only [Act.put, List.getElem_toArray, List.getElem_cons_zero, List.getElem_cons_succ, List.setIfInBounds_toArray, List.set_cons_zero, List.set_cons_succ])
              refine wpAnyH_ready (rs := [8]) (by kernel_rfl) (by simp) ?_
              refine AllReadyH.cons rfl (fun K hK => ?_) AllReadyH.nil
              go_simp
              (go_at_call 35; (with_reducible refine (reffold_any dt (by omega) (by omega) (none) (0) (0) rfl (0) want w35 (fun p => s3 ≤ p ∧ p < s4) (fun p hp => Nat.lt_of_lt_of_le (I35.out.hS _ (I35.out.inS.2.2.2 _ hp)) B35.out.size) (HWS.out.keep (fun p hp => B35.out.cell (I35.out.hS _ (I35.out.inS.2.2.2 _ hp)))) (by omega) HWT.out).mono ?_); rintro e w36 ⟨U36, g36, b36, rfl, st36, hg36, hb36, hu36, bel36⟩; have ST36 := Lib.hid st36; have HB36 := Lib.hid (And.intro hg36 (And.intro hb36 hu36)); have B36 := Lib.hid (B35.out.trans (bel36.mono B35.out.size)); have SLF := Lib.hid (show IsSl rowRep w36 (· < w36.heap.size) A35 n35 (rowsC ((tabs[q]?).getD [])) from (SL35.out.keep (fun p hp => bel36.cell hp.2)).weak (fun p hp => Nat.lt_of_lt_of_le hp.2 bel36.size)); have HF36 := Lib.hid (show w36.cell? ⟨CB, 0, none⟩ = some (.int .i64 (dt : Int)) from (bel36.cell (p := ⟨CB, 0, none⟩) (Nat.lt_of_lt_of_le hcbq SLR.out)).trans HE35.out); clear st36 hg36 hb36 hu36 bel36)
              refine hK.out _ _ (HF36.out) (fun hHeld2 => ?_)
              clear hK K hHeld; have hHeld := hHeld2; clear hHeld2; (try simp only [Act.put, List.getElem_toArray, List.getElem_cons_zero, List.getElem_cons_succ, List.setIfInBounds_toArray, List.set_cons_zero, List.set_cons_succ])
              have HN5 := Lib.hid (show n35 ≤ 281474976710656 by rw [HN35.out]; have := rowsC_len ((tabs[q]?).getD []); have := HSMQ.out; omega)
              obtain ⟨vs38, kb38, kv38, kall38⟩ := ST36.out.tab
              obtain ⟨A38, m38, c38, hv38, sl38, hc38, hm38⟩ := kall38 q _ HFE.out
              have cc38 := kb38.1 q _ hv38
              have SL38 := Lib.hid (show IsSl rowRep w36 (· < w36.heap.size) A38 m38 (rowsC ((tabs[q]?).getD [])) from sl38.weak (fun p hp => ST36.out.hU p hp))
              clear kb38 kv38 kall38 hv38 sl38 hc38 hm38 vs38
              refine wpAnyH_ready (rs := [10]) (by kernel_rfl) (by simp) ?_
              refine AllReadyH.cons rfl (fun K hK => ?_) AllReadyH.nil
              go_simp
              refine hK.out _ _ (HF36.out) (fun hHeld2 => ?_)
              clear hK K hHeld; have hHeld := hHeld2; clear hHeld2; (try simp only [Act.put, List.getElem_toArray, List.getElem_cons_zero, List.getElem_cons_succ, List.setIfInBounds_toArray, List.set_cons_zero, List.set_cons_succ])
              refine wpAnyH_ready (rs := [11]) (by kernel_rfl) (by simp) ?_
              refine AllReadyH.cons rfl (fun K hK => ?_) AllReadyH.nil
              go_simp
              refine hK.out _ _ (HF36.out) (fun hHeld2 => ?_)
              clear hK K hHeld; have hHeld := hHeld2; clear hHeld2; (try simp only [Act.put, List.getElem_toArray, List.getElem_cons_zero, List.getElem_cons_succ, List.setIfInBounds_toArray, List.set_cons_zero, List.set_cons_succ])
              refine wpAnyH_ready (rs := [12]) (by kernel_rfl) (by simp) ?_
              refine AllReadyH.cons rfl (fun K hK => ?_) AllReadyH.nil
              go_simp
              (go_at_call 33; (with_reducible refine (plain_row A35 A38 n35 m38 c35 c38 _ w36 SLF.out SL38.out HN5.out).mono ?_); rintro e w39 ⟨rfl, bel39⟩; have B39 := Lib.hid (B36.out.trans (bel39.mono B36.out.size)); have HF39 := Lib.hid (show w39.cell? ⟨CB, 0, none⟩ = some (.int .i64 (dt : Int)) from (bel39.cell (p := ⟨CB, 0, none⟩) (Nat.lt_of_lt_of_le hcbq B36.out.size)).trans HF36.out); clear bel39)
              refine hK.out _ _ (HF39.out) (fun hHeld2 => ?_)
              clear hK K hHeld; have hHeld := hHeld2; clear hHeld2; (try simp only [Act.put, List.getElem_toArray, List.getElem_cons_zero, List.getElem_cons_succ, List.setIfInBounds_toArray, List.set_cons_zero, List.set_cons_succ])
              (refine wpAnyH_take (i := 13) (v := ?_) rfl (by kernel_rfl) (by kernel_rfl) (by kernel_rfl) (fun _ _ _ h => h) (Or.inl ⟨by rfl, ?_⟩) hHeld ?_; rotate_left 1; focus (intro w hSw; (try dsimp only at hSw); go_simp; try with_reducible rfl)); (try simp only [Act.put, List.getElem_toArray, List.getElem_cons_zero, List.getElem_cons_succ, List.setIfInBounds_toArray, List.set_cons_zero, List.set_cons_succ])
              (refine wpAnyH_take (i := 14) (v := ?_) rfl (by kernel_rfl) (by kernel_rfl) (by kernel_rfl) (fun _ _ _ h => h) (Or.inl ⟨by rfl, ?_⟩) hHeld ?_; rotate_left 1; focus (intro w hSw; (try dsimp only at hSw); go_simp; try with_reducible rfl)); (try simp only [Act.put, List.getElem_toArray, List.getElem_cons_zero, List.getElem_cons_succ, List.setIfInBounds_toArray, List.set_cons_zero, List.set_cons_succ])
              (refine wpAnyH_take (i := 15) (v := ?_) rfl (by kernel_rfl) (by kernel_rfl) (by kernel_rfl) (fun _ _ _ h => h) (Or.inl ⟨by rfl, ?_⟩) hHeld ?_; rotate_left 1; focus (intro w hSw; (try dsimp only at hSw); go_simp; try with_reducible rfl)); (try simp only [Act.put, List.getElem_toArray, List.getElem_cons_zero, List.getElem_cons_succ, List.setIfInBounds_toArray, List.set_cons_zero, List.set_cons_succ])
              (refine wpAnyH_take (i := 16) (v := ?_) rfl (by kernel_rfl) (by kernel_rfl) (by kernel_rfl) (fun _ _ _ h => h) (Or.inl ⟨by rfl, ?_⟩) hHeld ?_; rotate_left 1; focus (intro w hSw; (try dsimp only at hSw); go_simp; try with_reducible rfl)); (try simp only [Act.put, List.getElem_toArray, List.getElem_cons_zero, List.getElem_cons_succ, List.setIfInBounds_toArray, List.set_cons_zero, List.set_cons_succ])
              (refine wpAnyH_take (i := 18) (v := ?_) rfl (by kernel_rfl) (by kernel_rfl) (by kernel_rfl) (fun _ _ _ h => h) (Or.inl ⟨by rfl, ?_⟩) hHeld ?_; rotate_left 1; focus (intro w hSw; (try dsimp only at hSw); go_simp; try with_reducible rfl)); (try simp only [Act.put, List.getElem_toArray, List.getElem_cons_zero, List.getElem_cons_succ, List.setIfInBounds_toArray, List.set_cons_zero, List.set_cons_succ])
              (refine wpAnyH_take (i := 19) (v := ?_) rfl (by kernel_rfl) (by kernel_rfl) (by kernel_rfl) (fun _ _ _ h => h) (Or.inl ⟨by rfl, ?_⟩) hHeld ?_; rotate_left 1; focus (intro w hSw; (try dsimp only at hSw); go_simp; try with_reducible rfl)); (try simp only [Act.put, List.getElem_toArray, List.getElem_cons_zero, List.getElem_cons_succ, List.setIfInBounds_toArray, List.set_cons_zero, List.set_cons_succ])
              refine wpAnyH_ready (rs := [17]) (by kernel_rfl) (by simp) ?_
              refine AllReadyH.cons rfl (fun K hK => ?_) AllReadyH.nil
              go_simp
              (go_at_call 30; (with_reducible refine (muxCapt_any S gm g x w39 (I35.out.after B39.out).own HPL.out.fine (q : Int) HQI.out).mono ?_); rintro e w40 ⟨rfl, bel40⟩; rw [HCAPQ.out]; have B40 := Lib.hid (B39.out.trans (bel40.mono B39.out.size)); have HF40 := Lib.hid (show w40.cell? ⟨CB, 0, none⟩ = some (.int .i64 (dt : Int)) from (bel40.cell (p := ⟨CB, 0, none⟩) (Nat.lt_of_lt_of_le hcbq B39.out.size)).trans HF39.out); clear bel40)
              refine hK.out _ _ (HF40.out) (fun hHeld2 => ?_)
              clear hK K hHeld; have hHeld := hHeld2; clear hHeld2; (try simp only [Act.put, List.getElem_toArray, List.getElem_cons_zero, List.getElem_cons_succ, List.setIfInBounds_toArray, List.set_cons_zero, List.set_cons_succ])
              (refine wpAnyH_take (i := 20) (v := ?_) rfl (by kernel_rfl) (by kernel_rfl) (by kernel_rfl) (fun _ _ _ h => h) (Or.inl ⟨by rfl, ?_⟩) hHeld ?_; rotate_left 1; focus (intro w hSw; (try dsimp only at hSw); go_simp; try with_reducible rfl)); (try simp only [Act.put, List.getElem_toArray, List.getElem_cons_zero, List.getElem_cons_succ, List.setIfInBounds_toArray, List.set_cons_zero, List.set_cons_succ])
              (refine wpAnyH_take (i := 21) (v := ?_) rfl (by kernel_rfl) (by kernel_rfl) (by kernel_rfl) (fun _ _ _ h => h) (Or.inl ⟨by rfl, ?_⟩) hHeld ?_; rotate_left 1; focus (intro w hSw; (try dsimp only at hSw); go_simp; try with_reducible rfl)); (try simp only [Act.put, List.getElem_toArray, List.getElem_cons_zero, List.getElem_cons_succ, List.setIfInBounds_toArray, List.set_cons_zero, List.set_cons_succ])
              refine wpAnyH_done (by kernel_rfl) ?_ _
              go_wp2_with fail
              go_roundw
              case rel => exact ⟨q + 1, by go_num, by omega, BEQ.out.trans (B40.out.mono BEQ.out.size)⟩
              case measure => simp [intOf]; omega
            case neg =>
              obtain ⟨f, hf⟩ := Int.eq_ofNat_of_zero_le (show 0 ≤ v - 1 by omega)
              obtain rfl : v = (f : Int) + 1 := by omega
              have HCAPQ := Lib.hid (show x.capt (q : Int) = true by rw [HEND.out.1]; exact decide_eq_true (by omega))
              have hfn : f < nt := by omega
              have hct := HCT.out
              have hnp : 0 < nt := by omega
              have hns : T ≠ [] := fun e => by rw [HNT.out, e] at hnp; exact absurd hnp (by simp)
              obtain ⟨want, hwant⟩ : ∃ want : List Txn, want = T.drop f := ⟨_, rfl⟩
              have HFE := Lib.hid (show (setAll (List.replicate dt []) (want.flatMap (·.changes)))[q]? = some (rowsC ((tabs[q]?).getD [])) by have := HEND.out.2.2; rw [if_pos ⟨by omega, hns⟩, show ((f : Int) + 1 - 1).toNat = f by omega] at this; rw [hwant]; exact this)
              have HWT := Lib.hid (show ∀ t ∈ want, t.changes.length ≤ 100 ∧ ∀ c ∈ t.changes, 0 ≤ c.table ∧ c.table < (dt : Int) by rw [hwant]; exact fun t ht => HMW.out t (List.mem_of_mem_drop ht))
              have hw0 : IntKind.i64.wrap ((f : Int) + 1 - 1) = (f : Int) := by rw [show (f : Int) + 1 - 1 = (f : Int) by omega]; exact IntWalk.i64_in _ (by unfold maxLen at hct; omega)
              have hg1 : decide ((0 : Int) < (f : Int) + 1) = true := decide_eq_true (by omega)
              have hg2 : decide ((0 : Int) < (nt : Int)) = true := decide_eq_true (by omega)
              have hfi : (f : Int) ≤ (nt : Int) := by omega
              have hf0 : (0 : Int) ≤ (f : Int) := by omega
              have hfc : f ≤ ct := by omega
              have HWH := Lib.hid hwant
              clear hwant hf hv0 hvr hns
              go_upto_region 35 with fail
              obtain ⟨Aw, hAw⟩ : ∃ Aw, Aw = Option.map (fun x => x.add (f * 5)) At := ⟨_, rfl⟩
              obtain ⟨nw, hnw⟩ : ∃ nw, nw = nt - f := ⟨_, rfl⟩
              obtain ⟨cw, hcw⟩ : ∃ cw, cw = ct - f := ⟨_, rfl⟩
              have HWS := Lib.hid (show IsSl txnRep wq (fun p => s3 ≤ p ∧ p < s4) Aw nw want by
                rw [HWH.out, hnw]
                exact HSLT.out.from_ (by omega) (fun _ b off e => by rw [hAw, e, Option.map_some, add_none]; rfl))
              have hnw40 : nw ≤ 40 := by omega
              rw [← hAw, ← hnw, ← hcw]
              clear hAw hnw hcw
              refine wp_region_held_drew (S := fun w' => w'.cell? ⟨CB, 0, none⟩ = some (.int .i64 (dt : Int))) (by kernel_rfl) (HD35.out) (fun hHeld => ?_)
              (refine wpAnyH_take (i := 0) (v := ?_) rfl (by kernel_rfl) (by kernel_rfl) (by kernel_rfl) (fun _ _ _ h => h) (Or.inl ⟨by rfl, ?_⟩) hHeld ?_; rotate_left 1; focus (intro w hSw; (try dsimp only at hSw); go_simp; try with_reducible rfl)); (try simp only [Act.put, List.getElem_toArray, List.getElem_cons_zero, List.getElem_cons_succ, List.setIfInBounds_toArray, List.set_cons_zero, List.set_cons_succ])
              (refine wpAnyH_take (i := 1) (v := ?_) rfl (by kernel_rfl) (by kernel_rfl) (by kernel_rfl) (fun _ _ _ h => h) (Or.inl ⟨by rfl, ?_⟩) hHeld ?_; rotate_left 1; focus (intro w hSw; (try dsimp only at hSw); go_simp; try with_reducible rfl)); (try simp only [Act.put, List.getElem_toArray, List.getElem_cons_zero, List.getElem_cons_succ, List.setIfInBounds_toArray, List.set_cons_zero, List.set_cons_succ])
              (refine wpAnyH_take (i := 3) (v := ?_) rfl (by kernel_rfl) (by kernel_rfl) (by kernel_rfl) (fun _ _ _ h => h) (Or.inl ⟨by rfl, ?_⟩) hHeld ?_; rotate_left 1; focus (intro w hSw; (try dsimp only at hSw); go_simp; try with_reducible rfl)); (try simp only [Act.put, List.getElem_toArray, List.getElem_cons_zero, List.getElem_cons_succ, List.setIfInBounds_toArray, List.set_cons_zero, List.set_cons_succ])
              (refine wpAnyH_take (i := 4) (v := ?_) rfl (by kernel_rfl) (by kernel_rfl) (by kernel_rfl) (fun _ _ _ h => h) (Or.inl ⟨by rfl, ?_⟩) hHeld ?_; rotate_left 1; focus (intro w hSw; (try dsimp only at hSw); go_simp; try with_reducible rfl)); (try simp only [Act.put, List.getElem_toArray, List.getElem_cons_zero, List.getElem_cons_succ, List.setIfInBounds_toArray, List.set_cons_zero, List.set_cons_succ])
              (refine wpAnyH_take (i := 5) (v := ?_) rfl (by kernel_rfl) (by kernel_rfl) (by kernel_rfl) (fun _ _ _ h => h) (Or.inl ⟨by rfl, ?_⟩) hHeld ?_; rotate_left 1; focus (intro w hSw; (try dsimp only at hSw); go_simp; try with_reducible rfl)); (try simp only [Act.put, List.getElem_toArray, List.getElem_cons_zero, List.getElem_cons_succ, List.setIfInBounds_toArray, List.set_cons_zero, List.set_cons_succ])
              (refine wpAnyH_take (i := 6) (v := ?_) rfl (by kernel_rfl) (by kernel_rfl) (by kernel_rfl) (fun _ _ _ h => h) (Or.inl ⟨by rfl, ?_⟩) hHeld ?_; rotate_left 1; focus (intro w hSw; (try dsimp only at hSw); go_simp; try with_reducible rfl)); (try simp only [Act.put, List.getElem_toArray, List.getElem_cons_zero, List.getElem_cons_succ, List.setIfInBounds_toArray, List.set_cons_zero, List.set_cons_succ])
              (refine wpAnyH_take (i := 7) (v := ?_) rfl (by kernel_rfl) (by kernel_rfl) (by kernel_rfl) (fun _ _ _ h => h) (Or.inl ⟨by rfl, ?_⟩) hHeld ?_; rotate_left 1; focus (intro w hSw; (try dsimp only at hSw); go_simp; try with_reducible rfl)); (try simp only [Act.put, List.getElem_toArray, List.getElem_cons_zero, List.getElem_cons_succ, List.setIfInBounds_toArray, List.set_cons_zero, List.set_cons_succ])
              (refine wpAnyH_take (i := 9) (v := ?_) rfl (by kernel_rfl) (by kernel_rfl) (by kernel_rfl) (fun _ _ _ h => h) (Or.inl ⟨by rfl, ?_⟩) hHeld ?_; rotate_left 1; focus (intro w hSw; (try dsimp only at hSw); go_simp; try with_reducible rfl)); (try simp only [Act.put, List.getElem_toArray, List.getElem_cons_zero, List.getElem_cons_succ, List.setIfInBounds_toArray, List.set_cons_zero, List.set_cons_succ])
              refine wpAnyH_ready (rs := [2]) (by kernel_rfl) (by simp) ?_
              refine AllReadyH.cons rfl (fun K hK => ?_) AllReadyH.nil
              go_simp
              (go_at_call 34; (with_reducible refine (reprows_any gs bt U tabs q (q : Int) rfl wq.drew (I35.out.after (below_of_drew0 (Below.refl _ _))).rep HKT.out HTS.out.1 HTS.out.2).mono ?_); rintro e w35 ⟨v35, rfl, own35, bel35⟩; obtain ⟨A35, c35, rfl, _, _, sl35⟩ := own35.isSlR; obtain ⟨n35, hn35⟩ : ∃ n35, n35 = (rowsC ((tabs[q]?).getD [])).length := ⟨_, rfl⟩; rw [← hn35] at sl35 ⊢; have HN35 := Lib.hid hn35; have SL35 := Lib.hid sl35; have B35 := Lib.hid (below_of_drew bel35); have SLR := Lib.hid (show wq.heap.size ≤ w35.heap.size from bel35.size); have HE35 := Lib.hid (show w35.cell? ⟨CB, 0, none⟩ = some (.int .i64 (dt : Int)) from (bel35.cell (p := ⟨CB, 0, none⟩) hcbq).trans HD35.out); clear own35 bel35 sl35 hn35)
              refine hK.out _ _ (HE35.out) (fun hHeld2 => ?_)
              clear hK K hHeld; have hHeld := hHeld2; clear hHeld2; (try simp only [Act.put, List.getElem_toArray, List.getElem_cons_zero, List.getElem_cons_succ, List.setIfInBounds_toArray, List.set_cons_zero, List.set_cons_succ])
              refine wpAnyH_ready (rs := [8]) (by kernel_rfl) (by simp) ?_
              refine AllReadyH.cons rfl (fun K hK => ?_) AllReadyH.nil
              go_simp
              (go_at_call 35; (with_reducible refine (reffold_any dt (by omega) (by omega) (Aw) (nw) ((nw : Int)) rfl (cw) want w35 (fun p => s3 ≤ p ∧ p < s4) (fun p hp => Nat.lt_of_lt_of_le (I35.out.hS _ (I35.out.inS.2.2.2 _ hp)) B35.out.size) (HWS.out.keep (fun p hp => B35.out.cell (I35.out.hS _ (I35.out.inS.2.2.2 _ hp)))) (by omega) HWT.out).mono ?_); rintro e w36 ⟨U36, g36, b36, rfl, st36, hg36, hb36, hu36, bel36⟩; have ST36 := Lib.hid st36; have HB36 := Lib.hid (And.intro hg36 (And.intro hb36 hu36)); have B36 := Lib.hid (B35.out.trans (bel36.mono B35.out.size)); have SLF := Lib.hid (show IsSl rowRep w36 (· < w36.heap.size) A35 n35 (rowsC ((tabs[q]?).getD [])) from (SL35.out.keep (fun p hp => bel36.cell hp.2)).weak (fun p hp => Nat.lt_of_lt_of_le hp.2 bel36.size)); have HF36 := Lib.hid (show w36.cell? ⟨CB, 0, none⟩ = some (.int .i64 (dt : Int)) from (bel36.cell (p := ⟨CB, 0, none⟩) (Nat.lt_of_lt_of_le hcbq SLR.out)).trans HE35.out); clear st36 hg36 hb36 hu36 bel36)
              refine hK.out _ _ (HF36.out) (fun hHeld2 => ?_)
              clear hK K hHeld; have hHeld := hHeld2; clear hHeld2; (try simp only [Act.put, List.getElem_toArray, List.getElem_cons_zero, List.getElem_cons_succ, List.setIfInBounds_toArray, List.set_cons_zero, List.set_cons_succ])
              have HN5 := Lib.hid (show n35 ≤ 281474976710656 by rw [HN35.out]; have := rowsC_len ((tabs[q]?).getD []); have := HSMQ.out; omega)
              obtain ⟨vs38, kb38, kv38, kall38⟩ := ST36.out.tab
              obtain ⟨A38, m38, c38, hv38, sl38, hc38, hm38⟩ := kall38 q _ HFE.out
              have cc38 := kb38.1 q _ hv38
              have SL38 := Lib.hid (show IsSl rowRep w36 (· < w36.heap.size) A38 m38 (rowsC ((tabs[q]?).getD [])) from sl38.weak (fun p hp => ST36.out.hU p hp))
              clear kb38 kv38 kall38 hv38 sl38 hc38 hm38 vs38
              refine wpAnyH_ready (rs := [10]) (by kernel_rfl) (by simp) ?_
              refine AllReadyH.cons rfl (fun K hK => ?_) AllReadyH.nil
              go_simp
              refine hK.out _ _ (HF36.out) (fun hHeld2 => ?_)
              clear hK K hHeld; have hHeld := hHeld2; clear hHeld2; (try simp only [Act.put, List.getElem_toArray, List.getElem_cons_zero, List.getElem_cons_succ, List.setIfInBounds_toArray, List.set_cons_zero, List.set_cons_succ])
              refine wpAnyH_ready (rs := [11]) (by kernel_rfl) (by simp) ?_
              refine AllReadyH.cons rfl (fun K hK => ?_) AllReadyH.nil
              go_simp
              refine hK.out _ _ (HF36.out) (fun hHeld2 => ?_)
              clear hK K hHeld; have hHeld := hHeld2; clear hHeld2; (try simp only [Act.put, List.getElem_toArray, List.getElem_cons_zero, List.getElem_cons_succ, List.setIfInBounds_toArray, List.set_cons_zero, List.set_cons_succ])
              refine wpAnyH_ready (rs := [12]) (by kernel_rfl) (by simp) ?_
              refine AllReadyH.cons rfl (fun K hK => ?_) AllReadyH.nil
              go_simp
              (go_at_call 33; (with_reducible refine (plain_row A35 A38 n35 m38 c35 c38 _ w36 SLF.out SL38.out HN5.out).mono ?_); rintro e w39 ⟨rfl, bel39⟩; have B39 := Lib.hid (B36.out.trans (bel39.mono B36.out.size)); have HF39 := Lib.hid (show w39.cell? ⟨CB, 0, none⟩ = some (.int .i64 (dt : Int)) from (bel39.cell (p := ⟨CB, 0, none⟩) (Nat.lt_of_lt_of_le hcbq B36.out.size)).trans HF36.out); clear bel39)
              refine hK.out _ _ (HF39.out) (fun hHeld2 => ?_)
              clear hK K hHeld; have hHeld := hHeld2; clear hHeld2; (try simp only [Act.put, List.getElem_toArray, List.getElem_cons_zero, List.getElem_cons_succ, List.setIfInBounds_toArray, List.set_cons_zero, List.set_cons_succ])
              (refine wpAnyH_take (i := 13) (v := ?_) rfl (by kernel_rfl) (by kernel_rfl) (by kernel_rfl) (fun _ _ _ h => h) (Or.inl ⟨by rfl, ?_⟩) hHeld ?_; rotate_left 1; focus (intro w hSw; (try dsimp only at hSw); go_simp; try with_reducible rfl)); (try simp only [Act.put, List.getElem_toArray, List.getElem_cons_zero, List.getElem_cons_succ, List.setIfInBounds_toArray, List.set_cons_zero, List.set_cons_succ])
              (refine wpAnyH_take (i := 14) (v := ?_) rfl (by kernel_rfl) (by kernel_rfl) (by kernel_rfl) (fun _ _ _ h => h) (Or.inl ⟨by rfl, ?_⟩) hHeld ?_; rotate_left 1; focus (intro w hSw; (try dsimp only at hSw); go_simp; try with_reducible rfl)); (try simp only [Act.put, List.getElem_toArray, List.getElem_cons_zero, List.getElem_cons_succ, List.setIfInBounds_toArray, List.set_cons_zero, List.set_cons_succ])
              (refine wpAnyH_take (i := 15) (v := ?_) rfl (by kernel_rfl) (by kernel_rfl) (by kernel_rfl) (fun _ _ _ h => h) (Or.inl ⟨by rfl, ?_⟩) hHeld ?_; rotate_left 1; focus (intro w hSw; (try dsimp only at hSw); go_simp; try with_reducible rfl)); (try simp only [Act.put, List.getElem_toArray, List.getElem_cons_zero, List.getElem_cons_succ, List.setIfInBounds_toArray, List.set_cons_zero, List.set_cons_succ])
              (refine wpAnyH_take (i := 16) (v := ?_) rfl (by kernel_rfl) (by kernel_rfl) (by kernel_rfl) (fun _ _ _ h => h) (Or.inl ⟨by rfl, ?_⟩) hHeld ?_; rotate_left 1; focus (intro w hSw; (try dsimp only at hSw); go_simp; try with_reducible rfl)); (try simp only [Act.put, List.getElem_toArray, List.getElem_cons_zero, List.getElem_cons_succ, List.setIfInBounds_toArray, List.set_cons_zero, List.set_cons_succ])
              (refine wpAnyH_take (i := 18) (v := ?_) rfl (by kernel_rfl) (by kernel_rfl) (by kernel_rfl) (fun _ _ _ h => h) (Or.inl ⟨by rfl, ?_⟩) hHeld ?_; rotate_left 1; focus (intro w hSw; (try dsimp only at hSw); go_simp; try with_reducible rfl)); (try simp only [Act.put, List.getElem_toArray, List.getElem_cons_zero, List.getElem_cons_succ, List.setIfInBounds_toArray, List.set_cons_zero, List.set_cons_succ])
              (refine wpAnyH_take (i := 19) (v := ?_) rfl (by kernel_rfl) (by kernel_rfl) (by kernel_rfl) (fun _ _ _ h => h) (Or.inl ⟨by rfl, ?_⟩) hHeld ?_; rotate_left 1; focus (intro w hSw; (try dsimp only at hSw); go_simp; try with_reducible rfl)); (try simp only [Act.put, List.getElem_toArray, List.getElem_cons_zero, List.getElem_cons_succ, List.setIfInBounds_toArray, List.set_cons_zero, List.set_cons_succ])
              refine wpAnyH_ready (rs := [17]) (by kernel_rfl) (by simp) ?_
              refine AllReadyH.cons rfl (fun K hK => ?_) AllReadyH.nil
              go_simp
              (go_at_call 30; (with_reducible refine (muxCapt_any S gm g x w39 (I35.out.after B39.out).own HPL.out.fine (q : Int) HQI.out).mono ?_); rintro e w40 ⟨rfl, bel40⟩; rw [HCAPQ.out]; have B40 := Lib.hid (B39.out.trans (bel40.mono B39.out.size)); have HF40 := Lib.hid (show w40.cell? ⟨CB, 0, none⟩ = some (.int .i64 (dt : Int)) from (bel40.cell (p := ⟨CB, 0, none⟩) (Nat.lt_of_lt_of_le hcbq B39.out.size)).trans HF39.out); clear bel40)
              refine hK.out _ _ (HF40.out) (fun hHeld2 => ?_)
              clear hK K hHeld; have hHeld := hHeld2; clear hHeld2; (try simp only [Act.put, List.getElem_toArray, List.getElem_cons_zero, List.getElem_cons_succ, List.setIfInBounds_toArray, List.set_cons_zero, List.set_cons_succ])
              (refine wpAnyH_take (i := 20) (v := ?_) rfl (by kernel_rfl) (by kernel_rfl) (by kernel_rfl) (fun _ _ _ h => h) (Or.inl ⟨by rfl, ?_⟩) hHeld ?_; rotate_left 1; focus (intro w hSw; (try dsimp only at hSw); go_simp; try with_reducible rfl)); (try simp only [Act.put, List.getElem_toArray, List.getElem_cons_zero, List.getElem_cons_succ, List.setIfInBounds_toArray, List.set_cons_zero, List.set_cons_succ])
              (refine wpAnyH_take (i := 21) (v := ?_) rfl (by kernel_rfl) (by kernel_rfl) (by kernel_rfl) (fun _ _ _ h => h) (Or.inl ⟨by rfl, ?_⟩) hHeld ?_; rotate_left 1; focus (intro w hSw; (try dsimp only at hSw); go_simp; try with_reducible rfl)); (try simp only [Act.put, List.getElem_toArray, List.getElem_cons_zero, List.getElem_cons_succ, List.setIfInBounds_toArray, List.set_cons_zero, List.set_cons_succ])
              refine wpAnyH_done (by kernel_rfl) ?_ _
              go_wp2_with fail
              go_roundw
              case rel => exact ⟨q + 1, by go_num, by omega, BEQ.out.trans (B40.out.mono BEQ.out.size)⟩
              case measure => simp [intOf]; omega
end Go.Proofs.Ythhpddiicnjmmaa
