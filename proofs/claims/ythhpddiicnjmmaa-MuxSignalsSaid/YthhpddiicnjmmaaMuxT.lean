/- The walk of the law MuxSignals. -/
import Derived.Test.YthhpddiicnjmmaaMuxS
import Derived.Deep.RegionHeld3
import Derived.Deep.QuietTactic
import Derived.BigQuiet
set_option linter.unusedVariables false
set_option linter.unusedSimpArgs false
set_option maxRecDepth 100000
namespace Go.Proofs.Ythhpddiicnjmmaa
open Go.RowKit

set_option maxHeartbeats 16000000 in
theorem muxSignals_walk (w : World) (c : Cfg) (cs : Array Value) (hcs : cfgRep.rel w (· < w.heap.size) c cs.toList) (A : Option Addr) (n cc : Nat) (L : List (List ByteArray)) (h : IsSl (sliceRep strRep) w (· < w.heap.size) A n L) (h1 : n ≤ cc) (h2 : cc ≤ maxLen) :
    Calls Try.prog 8 #[.agg cs, .slice A n cc] w fun e w' => e = .returned (.bool true) ∧ Below w.heap.size w w' := by
  obtain rfl : cs = #[.int .i64 c.tables, .int .i64 c.late, .int .i64 c.size, .int .i64 c.queue, .int .i64 c.chunk, .int .i64 c.batch, .int .i64 c.base, .int .i64 c.cap, .int .i64 c.jitter, .int .i64 c.every] := by
    have := hcs.1
    cases cs
    simp only [Cfg.cells] at this
    exact congrArg Array.mk this
  have HH := Lib.hid h
  have HP := Lib.hid (cfg_new c)
  have HPC := Lib.hid (playConfig_any c)
  obtain ⟨d, hd⟩ : ∃ d, d = playCfg c := ⟨_, rfl⟩
  rw [← hd] at HP HPC
  have hd1 := HP.out.2.1
  have hd2 := HP.out.2.2
  clear h hcs hd
  obtain ⟨CB, hCB⟩ : ∃ CB, CB = w.heap.size := ⟨_, rfl⟩
  have H1 := Lib.hid hCB
  have hCBw : w.heap.size ≤ CB := by rw [hCB]; exact Nat.le_refl _
  obtain ⟨W, hW⟩ : ∃ W, W = w.alloc (.cells #[.int .i64 c.tables, .int .i64 c.late, .int .i64 c.size, .int .i64 c.queue, .int .i64 c.chunk, .int .i64 c.batch, .int .i64 c.base, .int .i64 c.cap, .int .i64 c.jitter, .int .i64 c.every] 49) := ⟨_, rfl⟩
  have HW := Lib.hid hW
  have BC := Lib.hid (show Blk W CB [.int .i64 c.tables, .int .i64 c.late, .int .i64 c.size, .int .i64 c.queue, .int .i64 c.chunk, .int .i64 c.batch, .int .i64 c.base, .int .i64 c.cap, .int .i64 c.jitter, .int .i64 c.every] by rw [hW, hCB]; exact Blk.new rfl rfl)
  have BW := Lib.hid (show Below w.heap.size w W by rw [hW]; exact (Below.refl _ _).alloc (Nat.le_refl _) _)
  clear hW hCB
  go_enter Try.func8, Try.ntmps8
  go_wp2_with (first
    | (go_at_call 24; rw [← HW.out, ← H1.out]; (with_reducible refine (HPC.out W).mono ?_); rintro e w1 ⟨rfl, bel1⟩; have B1 := Lib.hid (BW.out.trans (bel1.mono BW.out.size)); have BC1 := Lib.hid (BC.out.after bel1); have b0 := BC1.out.1 0 _ rfl; have b1 := BC1.out.1 1 _ rfl; have b2 := BC1.out.1 2 _ rfl; have b3 := BC1.out.1 3 _ rfl; have b4 := BC1.out.1 4 _ rfl; have b5 := BC1.out.1 5 _ rfl; have b6 := BC1.out.1 6 _ rfl; have b7 := BC1.out.1 7 _ rfl; have b8 := BC1.out.1 8 _ rfl; have b9 := BC1.out.1 9 _ rfl; have bz := BC1.out.2.1; clear bel1)
    | (go_at_call 25; generalize hw2 : World.setCell _ ⟨CB, 9, none⟩ _ = w2; have BC2 := Lib.hid (show Blk w2 CB [.int .i64 d.tables, .int .i64 d.late, .int .i64 d.size, .int .i64 d.queue, .int .i64 d.chunk, .int .i64 d.batch, .int .i64 d.base, .int .i64 d.cap, .int .i64 d.jitter, .int .i64 d.every] by rw [← hw2]; exact ((((((((((BC1.out.put (j := 0) (by simp) _ rfl).put (j := 1) (by simp) _ rfl).put (j := 2) (by simp) _ rfl).put (j := 3) (by simp) _ rfl).put (j := 4) (by simp) _ rfl).put (j := 5) (by simp) _ rfl).put (j := 6) (by simp) _ rfl).put (j := 7) (by simp) _ rfl).put (j := 8) (by simp) _ rfl).put (j := 9) (by simp) _ rfl)); have B2 := Lib.hid (show Below w.heap.size w w2 by rw [← hw2]; exact ((((((((((B1.out.setCell hCBw _).setCell hCBw _).setCell hCBw _).setCell hCBw _).setCell hCBw _).setCell hCBw _).setCell hCBw _).setCell hCBw _).setCell hCBw _).setCell hCBw _)); clear hw2 b0 b1 b2 b3 b4 b5 b6 b7 b8 b9 bz; (with_reducible refine (muxNew_any d.tables d.late d.chunk 0 none 0 0 [] w2 IsSl.nil (by omega)).mono ?_); rintro e w3 hp; rcases hp with ⟨_, gm, g, rfl, m3, bel3⟩ | ⟨h0, _⟩; rotate_left 1; (exact absurd HP.out.1 (by rw [h0]; decide)); have M3 := Lib.hid m3; have B3 := Lib.hid (bel_n B2.out bel3); have BC3 := Lib.hid (BC2.out.after bel3); have D3 := Lib.hid bel3; clear m3 bel3)
    | fail)
  go_loopw [7, 8] (fun rv i wr => ∃ (k : Nat) (Sr : Nat → Prop) (x : Mx) (A7 : Option Addr) (n7 c7 : Nat), i = .int .i64 k ∧ k ≤ 30 ∧ rv = .slice A7 n7 c7 ∧ (∀ q, q < w2.heap.size → Sr q) ∧ (∀ q, Sr q → q < wr.heap.size) ∧ MuxOwn wr Sr gm g x ∧ x.Fine ∧ x.at_ = k ∧ x.tables = d.tables ∧ IsSl reqRep wr Sr A7 n7 x.reqs ∧ Below w2.heap.size w2 wr) (fun _ i _ => 30 - (intOf i).toNat)
  case atStart => exact ⟨0, _, _, none, 0, 0, rfl, Nat.zero_le _, rfl, fun q hq => hq, fun q hq => Nat.lt_of_lt_of_le hq D3.out.size, M3.out, fine_new HP.out.1, rfl, rfl, IsSl.nil, D3.out⟩
  case round =>
    obtain ⟨wo, rfl⟩ : ∃ q : World, q = wr := ⟨_, rfl⟩
    obtain ⟨k, Sr, x, A7, n7, c7, rfl, hk, rfl, hold, hslt, hm, hf, hat, htb, hrq, hbel⟩ := hrel
    have M := Lib.hid hm
    have HF := Lib.hid hf
    have HRQ := Lib.hid hrq
    have BE := Lib.hid hbel
    have HOLD := Lib.hid hold
    have HSL := Lib.hid hslt
    have HTB := Lib.hid htb
    have hcw2 := BC2.out.lt
    have BCO := Lib.hid (BC2.out.below hbel hcw2)
    clear hm hf hrq hbel hold hslt htb
    by_cases hlt : k < n ∧ k < 30
    · obtain ⟨hk1, hk2⟩ := hlt
      have hd1 : decide ((k : Int) < (n : Int)) = true := decide_eq_true (by omega)
      have hd2 : decide ((k : Int) < 30) = true := decide_eq_true (by omega)
      have hki : (k : Int) < (n : Int) := by omega
      have hk0 : (0 : Int) ≤ (k : Int) := by omega
      have BWO := Lib.hid (B2.out.trans (BE.out.mono B2.out.size))
      obtain ⟨b0, off, sl, A1, n1, c1, rfl, hb0, hsx, s1, l1, m1, hc0⟩ := HH.out.inner hk1 (fun p hp => BWO.out.cell hp)
      have S1 := Lib.hid (s1.more BWO.out.size)
      obtain ⟨G, hG⟩ : ∃ G, G = playSigs 8 2 sl := ⟨_, rfl⟩
      have HGA := Lib.hid (playSigs_all sl)
      rw [← hG] at HGA
      have HG := Lib.hid hG
      have HT := Lib.hid (sig_take (x := x) (g := G) (by omega) (by omega) HGA.out.1 HGA.out.2)
      rw [hat] at HT
      obtain ⟨x', hx'⟩ : ∃ x', x' = x.takeM ⟨(k : Int) + 1, 1, [], G, 0⟩ := ⟨_, rfl⟩
      obtain ⟨N, hN⟩ : ∃ N, N = ((x.setAt ((k : Int) + 1)).accs ((k : Int) + 1) G).2 := ⟨_, rfl⟩
      have HX := Lib.hid hx'
      have HN := Lib.hid hN
      have HF' := Lib.hid (show x'.Fine by rw [hx']; exact HF.out.take _)
      rw [← hx', ← hN] at HT
      clear hG hsx s1 hx' hN
      go_wp2_with (first
        | (go_at_call 37; (with_reducible refine (playSignals_any A1 n1 c1 sl 8 8 rfl (by omega) (by omega) 2 2 rfl (by omega) wo S1.out).mono ?_); rintro e w4 ⟨v4, rfl, own4, bel4⟩; rw [← HG.out] at own4; obtain ⟨A4, c4, rfl, l4, m4, s4⟩ := own4.isSlR; obtain ⟨n4, hn4⟩ : ∃ n4, n4 = G.length := ⟨_, rfl⟩; rw [← hn4] at s4 l4 ⊢; have hn42 : n4 ≤ 2 := (by rw [hn4]; exact HGA.out.2); have HN4 := Lib.hid hn4; have B4 := Lib.hid bel4; have S4L := Lib.hid (s4.weak (S' := fun q => Sr q ∨ (wo.heap.size ≤ q ∧ q < w4.heap.size)) (fun q hq => .inr hq)); have M4 := Lib.hid (M.out.step bel4); clear own4 bel4 s4 hn4)
        | (go_at_call 28; have KC := muxTake_any (fun q => Sr q ∨ (wo.heap.size ≤ q ∧ q < w4.heap.size)) gm g x w4 (fun q hq => hq.elim (fun h => Nat.lt_of_lt_of_le (HSL.out q h) B4.out.size) (fun h => h.2)) M4.out HF.out ⟨(k : Int) + 1, 1, [], G, 0⟩ none 0 0 A4 n4 c4 IsSl.nil S4L.out; unfold txnV at KC; (with_reducible refine KC.mono ?_); clear KC; rintro e w5 ⟨A5, n5, c5, A6, n6, c6, rfl, s5, s6, m5, r5⟩; rw [HT.out.1]; rw [HT.out.2.1] at s5 s6 ⊢; rw [← HX.out] at m5; obtain rfl : n5 = 0 := s5.len; have M5 := Lib.hid m5; have R5 := Lib.hid r5; have S6 := Lib.hid s6; clear s5 s6 m5 r5)
        | fail)
      obtain ⟨XB, hXB⟩ : ∃ XB, XB = w5.heap.size := ⟨_, rfl⟩
      obtain ⟨w6, hw6⟩ : ∃ w6, w6 = w5.alloc (.cells #[.int .i64 ((k : Int) + 1), .slice A5 0 c5, .slice A6 n6 c6] 62) := ⟨_, rfl⟩
      have B6 := Lib.hid (show Below w5.heap.size w5 w6 by rw [hw6]; exact (Below.refl _ _).alloc (Nat.le_refl _) _)
      have BX := Lib.hid (show Blk w6 XB [.int .i64 ((k : Int) + 1), .slice A5 0 c5, .slice A6 n6 c6] by rw [hw6, hXB]; exact Blk.new rfl rfl)
      rw [← hw6, ← hXB]
      clear hw6 hXB
      have HSU := Lib.hid (show ∀ q, (Sr q ∨ (wo.heap.size ≤ q ∧ q < w4.heap.size)) → q < w6.heap.size from fun q hq => Nat.lt_of_lt_of_le (hq.elim (fun h => Nat.lt_of_lt_of_le (HSL.out q h) B4.out.size) (fun h => h.2)) (Nat.le_trans R5.out.size B6.out.size))
      have M6 := Lib.hid (M5.out.below B6.out)
      have SG6 := Lib.hid ((S4L.out.rest R5.out (fun _ h => h)).keep (w' := w6) (fun p hp => B6.out.cell (Nat.lt_of_lt_of_le (hp.elim (fun h => Nat.lt_of_lt_of_le (HSL.out _ h) B4.out.size) (fun h => h.2)) R5.out.size)))
      have SR6 := Lib.hid ((((HRQ.out.keep (w' := w4) (fun p hp => B4.out.cell (HSL.out _ hp))).weak (S' := fun q => Sr q ∨ (wo.heap.size ≤ q ∧ q < w4.heap.size)) (fun q hq => .inl hq)).rest R5.out (fun _ h => h)).keep (w' := w6) (fun p hp => B6.out.cell (Nat.lt_of_lt_of_le (hp.elim (fun h => Nat.lt_of_lt_of_le (HSL.out _ h) B4.out.size) (fun h => h.2)) R5.out.size)))
      have SN6 := Lib.hid (S6.out.keep (w' := w6) (fun p hp => B6.out.cell hp.2))
      have BC6 := Lib.hid (show Blk w6 CB [.int .i64 d.tables, .int .i64 d.late, .int .i64 d.size, .int .i64 d.queue, .int .i64 d.chunk, .int .i64 d.batch, .int .i64 d.base, .int .i64 d.cap, .int .i64 d.jitter, .int .i64 d.every] from ((BCO.out.after B4.out).rest R5.out (.inl (HOLD.out _ BC2.out.lt))).after B6.out)
      have BL6 := Lib.hid (show Below w2.heap.size w2 w6 from (BE.out.trans (B4.out.mono BE.out.size)).trans ((R5.out.toBelow (B := w2.heap.size) (fun q hq => .inl (HOLD.out q hq))).trans (B6.out.mono (Nat.le_trans (Nat.le_trans BE.out.size B4.out.size) R5.out.size))))
      have HNL := Lib.hid SN6.out.len
      have hn62 : n6 ≤ 2 := by rw [HNL.out]; have := accs_len (x.setAt ((k : Int) + 1)) ((k : Int) + 1) G; rw [← HN.out] at this; exact Nat.le_trans this HGA.out.2
      go_loopw [7, 12, 13] (fun rv nv jv wr => ∃ (j : Nat) (y : Mx) (Nj : List Note) (A8 : Option Addr) (n8 c8 : Nat), jv = .int .i64 j ∧ nv = .int .i64 Nj.length ∧ rv = .slice A8 n8 c8 ∧ j ≤ n4 ∧ (x.setAt ((k : Int) + 1)).accs ((k : Int) + 1) (G.take j) = (y, Nj) ∧ IsSl reqRep wr (fun q => (Sr q ∨ (wo.heap.size ≤ q ∧ q < w4.heap.size)) ∨ (w6.heap.size ≤ q ∧ q < wr.heap.size)) A8 n8 y.reqs ∧ Below w6.heap.size w6 wr) (fun _ _ jv _ => n4 - (intOf jv).toNat)
      case atStart => exact ⟨0, _, _, A7, n7, c7, rfl, rfl, rfl, Nat.zero_le _, rfl, SR6.out.weak (fun q hq => .inl hq), Below.refl _ _⟩
      case round =>
        obtain ⟨wi, rfl⟩ : ∃ q : World, q = wr := ⟨_, rfl⟩
        obtain ⟨j, y, Nj, A8, n8, c8, rfl, rfl, rfl, hj, hacc, hrq2, hbel2⟩ := hrel
        have HA := Lib.hid hacc
        have HR2 := Lib.hid hrq2
        have BI := Lib.hid hbel2
        have HYF := Lib.hid (show y.Fine by have := (HF.out.setAt (n := (k : Int) + 1) (by omega) (by omega)).accs ((k : Int) + 1) (G.take j); rw [hacc] at this; exact this)
        have HYT := Lib.hid (show y.tables = d.tables by have := (accs_keep (x.setAt ((k : Int) + 1)) ((k : Int) + 1) (G.take j)).1; rw [hacc] at this; exact this.trans HTB.out)
        have hyl := may_short HYF.out.may
        have hny := hrq2.len
        have HNY := Lib.hid hny
        have hn8 : n8 ≤ 64 := by omega
        have HR2L := Lib.hid (show IsSl reqRep wi (· < wi.heap.size) A8 n8 y.reqs from hrq2.weak (fun q hq => hq.elim (fun h => Nat.lt_of_lt_of_le (HSU.out q h) hbel2.size) (fun h => h.2)))
        have BXI := Lib.hid (BX.out.after BI.out)
        have BCI := Lib.hid (BC6.out.after BI.out)
        obtain ⟨y0, y1, y2, yz⟩ := BXI.out.c3
        obtain ⟨m, hmm⟩ : ∃ m, m = Nj.length := ⟨_, rfl⟩
        have HMM := Lib.hid hmm
        rw [← hmm]
        clear hacc hrq2 hbel2 hny hmm
        by_cases hlt2 : j < n4
        · obtain ⟨b9, o9, sg, rfl, hb9, hsx9, hsg, hc9⟩ := SG6.out.strT hlt2 (fun p hp => BI.out.cell (HSU.out _ hp))
          have hd3 : decide ((j : Int) < (n4 : Int)) = true := decide_eq_true (by omega)
          have hji : (j : Int) < (n4 : Int) := by omega
          have hj0 : (0 : Int) ≤ (j : Int) := by omega
          have HSX := Lib.hid (show (x.setAt ((k : Int) + 1)).accs ((k : Int) + 1) (G.take (j + 1)) = (y.acc sg ((k : Int) + 1), Nj ++ y.accN sg ((k : Int) + 1)) by rw [take_snoc hsx9, Mx.accs_snoc, HA.out])
          have HAT := Lib.hid (show ∀ nt, y.accN sg ((k : Int) + 1) = [nt] → N[m]? = some nt from fun nt hnt => by rw [HN.out, HMM.out]; have := accs_at (x := x.setAt ((k : Int) + 1)) (lsn := (k : Int) + 1) hsx9 (n := nt) (by rw [HA.out]; exact hnt); rw [HA.out] at this; exact this)
          obtain ⟨pb1, pb2, pb3, pb4⟩ := parse_bounds sg.data.toList
          obtain ⟨⟨ga, gb, gc⟩, hp⟩ : ∃ p, p = parseS sg.data.toList := ⟨_, rfl⟩
          rw [← hp] at pb1 pb2 pb3 pb4
          dsimp only at pb1 pb2 pb3 pb4
          have HPA := Lib.hid (show sigV (parseS sg.data.toList) = .tuple #[.agg #[.int .i64 ga, .int .i64 gb], .bool gc] by rw [← hp]; rfl)
          have HACC := Lib.hid (show y.accO sg ((k : Int) + 1) = if gc = true ∧ ga < d.tables then acceptO y.reqs ga gb ((k : Int) + 1) else none by unfold Mx.accO; rw [← hp, HYT.out])
          have HN1 := Lib.hid (show ∀ M, y.accO sg ((k : Int) + 1) = some M → y.accN sg ((k : Int) + 1) = [⟨1, M.length, ga, gb, (k : Int) + 1, 0, false⟩] ∧ (y.acc sg ((k : Int) + 1)).reqs = M by intro M hM; unfold Mx.accN Mx.acc; rw [hM, ← hp]; exact ⟨rfl, rfl⟩)
          have HN0 := Lib.hid (show y.accO sg ((k : Int) + 1) = none → y.accN sg ((k : Int) + 1) = [] ∧ y.acc sg ((k : Int) + 1) = y by intro hM; unfold Mx.accN Mx.acc; rw [hM]; exact ⟨rfl, rfl⟩)
          clear hp hsx9
          cases gc with
          | false =>
            have HZ := Lib.hid (HN0.out (by rw [HACC.out, if_neg (by simp)]))
            have HS2 := Lib.hid (show (x.setAt ((k : Int) + 1)).accs ((k : Int) + 1) (G.take (j + 1)) = (y, Nj) by rw [HSX.out, HZ.out.1, HZ.out.2, List.append_nil])
            go_wp2_with (first
              | (go_at_call 31; (with_reducible refine (refparse_any sg wi hsg).mono ?_); rintro e w7 ⟨rfl, bel7⟩; rw [HPA.out]; obtain ⟨w8, hw8⟩ : ∃ w8, w8 = w7.alloc (.cells #[.int .i64 ga, .int .i64 gb] 74) := ⟨_, rfl⟩; have B8 := Lib.hid (show Below wi.heap.size wi w8 by rw [hw8]; exact bel7.alloc bel7.size _); have BG8 := Lib.hid (show Blk w8 w7.heap.size [.int .i64 ga, .int .i64 gb] by rw [hw8]; exact Blk.new rfl rfl); have HW8 := Lib.hid hw8; have f0 := (BCI.out.after B8.out).1 0 _ rfl; have KX8 := Lib.hid (BXI.out.after B8.out); rw [hw8] at f0; clear bel7 hw8 y0 y1 y2 yz)
              | fail)
            go_roundw
            case rel => rw [← HW8.out]; exact ⟨j + 1, y, Nj, A8, n8, c8, by go_num, by rw [HMM.out], rfl, by omega, HS2.out, (HR2.out.keep (fun p hp => B8.out.cell (by have := HSU.out p.block; have := BI.out.size; rcases hp with h | h; exact Nat.lt_of_lt_of_le (HSU.out _ h) BI.out.size; exact h.2))).weak (fun q hq => hq.imp id (fun h => ⟨h.1, Nat.lt_of_lt_of_le h.2 B8.out.size⟩)), bel_n BI.out B8.out⟩
            case measure => simp [intOf]; omega
          | true =>
            by_cases htab : ga < d.tables
            case neg =>
              have HZ := Lib.hid (HN0.out (by rw [HACC.out, if_neg (by simp; omega)]))
              have HS2 := Lib.hid (show (x.setAt ((k : Int) + 1)).accs ((k : Int) + 1) (G.take (j + 1)) = (y, Nj) by rw [HSX.out, HZ.out.1, HZ.out.2, List.append_nil])
              have hdt : decide (d.tables ≤ ga) = true := decide_eq_true (by omega)
              go_wp2_with (first
                | (go_at_call 31; (with_reducible refine (refparse_any sg wi hsg).mono ?_); rintro e w7 ⟨rfl, bel7⟩; rw [HPA.out]; obtain ⟨w8, hw8⟩ : ∃ w8, w8 = w7.alloc (.cells #[.int .i64 ga, .int .i64 gb] 74) := ⟨_, rfl⟩; have B8 := Lib.hid (show Below wi.heap.size wi w8 by rw [hw8]; exact bel7.alloc bel7.size _); have BG8 := Lib.hid (show Blk w8 w7.heap.size [.int .i64 ga, .int .i64 gb] by rw [hw8]; exact Blk.new rfl rfl); have HW8 := Lib.hid hw8; have f0 := (BCI.out.after B8.out).1 0 _ rfl; have KX8 := Lib.hid (BXI.out.after B8.out); rw [hw8] at f0; clear bel7 hw8 y0 y1 y2 yz)
                | fail)
              go_roundw
              case rel => rw [← HW8.out]; exact ⟨j + 1, y, Nj, A8, n8, c8, by go_num, by rw [HMM.out], rfl, by omega, HS2.out, (HR2.out.keep (fun p hp => B8.out.cell (by have := HSU.out p.block; have := BI.out.size; rcases hp with h | h; exact Nat.lt_of_lt_of_le (HSU.out _ h) BI.out.size; exact h.2))).weak (fun q hq => hq.imp id (fun h => ⟨h.1, Nat.lt_of_lt_of_le h.2 B8.out.size⟩)), bel_n BI.out B8.out⟩
              case measure => simp [intOf]; omega
            case pos =>
              have hdt : decide (d.tables ≤ ga) = false := decide_eq_false (by omega)
              obtain ⟨o, ho⟩ : ∃ o, o = acceptO y.reqs ga gb ((k : Int) + 1) := ⟨_, rfl⟩
              have HA2 := Lib.hid (show y.accO sg ((k : Int) + 1) = o by rw [HACC.out, if_pos ⟨rfl, htab⟩, ho])
              have HOO := Lib.hid ho
              clear ho
              cases o with
              | none =>
                have HZ := Lib.hid (HN0.out HA2.out)
                have HS2 := Lib.hid (show (x.setAt ((k : Int) + 1)).accs ((k : Int) + 1) (G.take (j + 1)) = (y, Nj) by rw [HSX.out, HZ.out.1, HZ.out.2, List.append_nil])
                go_wp2_with (first
                  | (go_at_call 31; (with_reducible refine (refparse_any sg wi hsg).mono ?_); rintro e w7 ⟨rfl, bel7⟩; rw [HPA.out]; obtain ⟨w8, hw8⟩ : ∃ w8, w8 = w7.alloc (.cells #[.int .i64 ga, .int .i64 gb] 74) := ⟨_, rfl⟩; have B8 := Lib.hid (show Below wi.heap.size wi w8 by rw [hw8]; exact bel7.alloc bel7.size _); have BG8 := Lib.hid (show Blk w8 w7.heap.size [.int .i64 ga, .int .i64 gb] by rw [hw8]; exact Blk.new rfl rfl); have HW8 := Lib.hid hw8; have f0 := (BCI.out.after B8.out).1 0 _ rfl; have KX8 := Lib.hid (BXI.out.after B8.out); rw [hw8] at f0; clear bel7 hw8 y0 y1 y2 yz)
                  | (go_at_call 38; rw [← HW8.out]; (with_reducible refine (refaccept_any A8 n8 c8 y.reqs ga gb ((k : Int) + 1) w8 (HR2L.out.af B8.out) (by omega) (by unfold I64; omega) (by unfold I64; omega) (by unfold I64; omega)).mono ?_); rintro e w9 ⟨v9, rfl, own9, bel9⟩; rw [← HOO.out] at own9 ⊢; have B9 := Lib.hid (bel_n B8.out bel9); obtain ⟨A9, c9, rfl⟩ := own9.form; clear bel9; clear own9)
                  | fail)
                go_roundw
                case rel => exact ⟨j + 1, y, Nj, A8, n8, c8, by go_num, by rw [HMM.out], rfl, by omega, HS2.out, (HR2.out.keep (fun p hp => B9.out.cell (by have := HSU.out p.block; have := BI.out.size; rcases hp with h | h; exact Nat.lt_of_lt_of_le (HSU.out _ h) BI.out.size; exact h.2))).weak (fun q hq => hq.imp id (fun h => ⟨h.1, Nat.lt_of_lt_of_le h.2 B9.out.size⟩)), bel_n BI.out B9.out⟩
                case measure => simp [intOf]; omega
              | some M =>
                have HZ := Lib.hid (HN1.out M HA2.out)
                have HNT := Lib.hid (HAT.out _ HZ.out.1)
                have hmn : m < n6 := by
                  have := (List.getElem?_eq_some_iff.1 HNT.out).1
                  rw [HNL.out]; exact this
                have HS2 := Lib.hid (show (x.setAt ((k : Int) + 1)).accs ((k : Int) + 1) (G.take (j + 1)) = (y.acc sg ((k : Int) + 1), Nj ++ [⟨1, (M.length : Int), ga, gb, (k : Int) + 1, 0, false⟩]) by rw [HSX.out, HZ.out.1])
                obtain ⟨b6, o6, nt, cs6, rfl, hb6, hx6, ⟨rfl, _⟩, hc6⟩ := SN6.out.at_ hmn
                obtain rfl : (⟨1, (M.length : Int), ga, gb, (k : Int) + 1, 0, false⟩ : Note) = nt := Option.some.inj (HNT.out.symm.trans hx6)
                have HC6 := Lib.hid hc6
                have hb66 : b6 < w6.heap.size := Nat.lt_of_lt_of_le hb6.2 B6.out.size
                have hmi : (m : Int) < (n6 : Int) := by omega
                have hm0 : (0 : Int) ≤ (m : Int) := by omega
                have hmd : decide ((n6 : Int) ≤ (m : Int)) = false := decide_eq_false (by omega)
                obtain ⟨M9, hM9⟩ : ∃ M9, M9 = M.length := ⟨_, rfl⟩
                have HM9 := Lib.hid hM9
                have HMS := Lib.hid (may_short (acceptO_some HOO.out.symm).2)
                rw [← hM9] at HC6 HNT HS2
                have hwk : IntKind.i64.wrap ((k : Int) + 1) = (k : Int) + 1 := IntWalk.i64_in _ (by omega)
                clear hx6 hc6 hM9
                go_wp2_with (first
                  | (go_at_call 31; (with_reducible refine (refparse_any sg wi hsg).mono ?_); rintro e w7 ⟨rfl, bel7⟩; rw [HPA.out]; obtain ⟨w8, hw8⟩ : ∃ w8, w8 = w7.alloc (.cells #[.int .i64 ga, .int .i64 gb] 74) := ⟨_, rfl⟩; have B8 := Lib.hid (show Below wi.heap.size wi w8 by rw [hw8]; exact bel7.alloc bel7.size _); have BG8 := Lib.hid (show Blk w8 w7.heap.size [.int .i64 ga, .int .i64 gb] by rw [hw8]; exact Blk.new rfl rfl); have HW8 := Lib.hid hw8; have f0 := (BCI.out.after B8.out).1 0 _ rfl; have KX8 := Lib.hid (BXI.out.after B8.out); rw [hw8] at f0; clear bel7 hw8 y0 y1 y2 yz)
                  | (go_at_call 38; rw [← HW8.out]; (with_reducible refine (refaccept_any A8 n8 c8 y.reqs ga gb ((k : Int) + 1) w8 (HR2L.out.af B8.out) (by omega) (by unfold I64; omega) (by unfold I64; omega) (by unfold I64; omega)).mono ?_); rintro e w9 ⟨v9, rfl, own9, bel9⟩; rw [← HOO.out] at own9 ⊢; have B9 := Lib.hid (bel_n B8.out bel9); rw [show (some M).getD [] = M from rfl] at own9; obtain ⟨A9, c9, rfl, l9, m9, s9⟩ := own9.isSlR; rw [← HM9.out] at l9 s9 ⊢; have S9 := Lib.hid s9; have q0 := (bel9.cell (p := ⟨w7.heap.size, 0, none⟩) BG8.out.lt).trans (BG8.out.1 0 _ rfl); have q1 := (bel9.cell (p := ⟨w7.heap.size, 1, none⟩) BG8.out.lt).trans (BG8.out.1 1 _ rfl); have z2 := (bel9.cell (p := ⟨XB, 2, none⟩) KX8.out.lt).trans (KX8.out.1 2 _ rfl); have hcl : ∀ (jj : Nat) (u : Value), (⟨1, (M9 : Int), ga, gb, (k : Int) + 1, 0, false⟩ : Note).cells[jj]? = some u → w9.cell? ⟨b6, o6 + m * 7 + jj, none⟩ = some u := (fun jj u hu => ((bel_n BI.out B9.out).cell (p := ⟨b6, o6 + m * 7 + jj, none⟩) hb66).trans (HC6.out jj u hu)); have t0 : w9.cell? ⟨b6, o6 + m * 7, none⟩ = some (.int .i64 1) := hcl 0 _ rfl; have t1 : w9.cell? ⟨b6, o6 + m * 7 + 1, none⟩ = some (.int .i64 (M9 : Int)) := hcl 1 _ rfl; have t2 : w9.cell? ⟨b6, o6 + m * 7 + 2, none⟩ = some (.int .i64 ga) := hcl 2 _ rfl; have t3 : w9.cell? ⟨b6, o6 + m * 7 + 3, none⟩ = some (.int .i64 gb) := hcl 3 _ rfl; have t4 : w9.cell? ⟨b6, o6 + m * 7 + 4, none⟩ = some (.int .i64 ((k : Int) + 1)) := hcl 4 _ rfl; have t5 : w9.cell? ⟨b6, o6 + m * 7 + 5, none⟩ = some (.int .i64 0) := hcl 5 _ rfl; have t6 : w9.cell? ⟨b6, o6 + m * 7 + 6, none⟩ = some (.bool false) := hcl 6 _ rfl; clear s9 bel9 hcl; clear own9)
                  | fail)
                go_quiet (fail)
                go_wp2
                go_roundw
                case rel => exact ⟨j + 1, _, _, A9, M9, c9, by go_num, by rw [List.length_append, ← HMM.out, List.length_singleton]; go_num, rfl, by omega, HS2.out, by rw [HZ.out.2]; exact (S9.out.keep (fun _ _ => rfl)).weak (fun q hq => .inr ⟨Nat.le_trans BI.out.size (Nat.le_trans B8.out.size hq.1), hq.2⟩), below_drewN (bel_n BI.out B9.out) _⟩
                case measure => simp [intOf]; omega
        · obtain rfl : j = n4 := by omega
          have hd3 : decide ((j : Int) < (j : Int)) = false := by simp
          have HGT := Lib.hid (show (x.setAt ((k : Int) + 1)).accs ((k : Int) + 1) G = (y, Nj) by rw [← HA.out, List.take_of_length_le (by rw [← HN4.out]; exact Nat.le_refl _)])
          have hmn6 : m = n6 := by rw [HMM.out, HNL.out, HN.out, HGT.out]
          have hmd : ((m : Int) != (n6 : Int)) = false := by rw [hmn6]; simp
          have HXR := Lib.hid (show x'.reqs = y.reqs by rw [HT.out.2.2.1, HGT.out])
          have MI := Lib.hid (M6.out.step BI.out)
          have HXS := Lib.hid (may_short HF'.out.may)
          clear hmn6
          go_wp2_with (first
            | (go_at_call 40; (with_reducible refine (muxReqs_any _ gm g x' wi MI.out HXS.out).mono ?_); rintro e w10 ⟨A10, c10, rfl, s10, bel10⟩; rw [HXR.out] at s10 ⊢; have S10 := Lib.hid (s10.weak (S' := (· < w10.heap.size)) (fun q hq => hq.2)); have R10 := Lib.hid (HR2L.out.af bel10); have B10 := Lib.hid bel10; clear s10 bel10)
            | (go_at_call 39; (with_reducible refine (plain_req A10 A8 y.reqs.length n8 c10 c8 y.reqs w10 S10.out R10.out (by omega)).mono ?_); rintro e w11 ⟨rfl, bel11⟩; have B11 := Lib.hid (bel_n B10.out bel11); clear bel11)
            | fail)
          go_roundw
          case rel => exact ⟨k + 1, _, x', A8, n8, c8, by go_num, by omega, rfl, fun q hq => .inl (.inl (HOLD.out q hq)), fun q hq => hq.elim (fun h => Nat.lt_of_lt_of_le (HSU.out q h) (Nat.le_trans BI.out.size B11.out.size)) (fun h => Nat.lt_of_lt_of_le h.2 B11.out.size), MI.out.below B11.out, HF'.out, by rw [HT.out.2.2.2.1]; simp, by rw [HT.out.2.2.2.2]; exact HTB.out, by rw [HXR.out]; exact HR2.out.keep (fun p hp => B11.out.cell (hp.elim (fun h => Nat.lt_of_lt_of_le (HSU.out _ h) BI.out.size) (fun h => h.2))), BL6.out.trans ((bel_n BI.out B11.out).mono BL6.out.size)⟩
          case measure => simp [intOf]; omega
    · have hend : n ≤ k ∨ (k < n ∧ k = 30) := by omega
      clear hlt
      rcases hend with h5 | ⟨h5, rfl⟩
      case' inl => have hd5 : decide ((k : Int) < (n : Int)) = false := decide_eq_false (by omega)
      case' inr => have hd5 : decide ((30 : Int) < (n : Int)) = true := decide_eq_true (by omega)
      all_goals
        go_wp2_with (first
          | (go_at_call 36; (with_reducible refine (awake27_any wo).mono ?_); rintro e w9 ⟨rfl, bel9⟩; have B9 := Lib.hid bel9; clear bel9)
          | fail)
        go_ret
        exact ⟨rfl, B2.out.trans ((BE.out.trans (B9.out.mono BE.out.size)).mono B2.out.size)⟩
end Go.Proofs.Ythhpddiicnjmmaa
