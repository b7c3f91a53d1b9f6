/- The walk of the law TxnReads. -/
import Derived.Test.YtojjeogpggielaaTxn14
import Derived.Test.YtojjeogpggielaaTxnP
import Derived.Test.YtojjeogpggielaaMemB
set_option linter.unusedVariables false
set_option linter.unusedSimpArgs false
namespace Go.Proofs.Ytojjeogpggielaa
open Go.RowKit

theorem decTV_len (b : List UInt8) : (decTV b).changes.length ≤ 16 ∧ (decTV b).signals.length ≤ 2 := by
  rcases decT_cases b with ⟨_, t, _, hm, h1, _⟩ | ⟨h1, _⟩
  · rw [h1]; have := mayTxn_parts hm; exact ⟨this.2.2.2.2.2.2.1, this.2.2.2.2.2.2.2.1⟩
  · rw [h1]; exact ⟨Nat.zero_le _, Nat.zero_le _⟩

theorem encV_small {l : List Fld} (h : l.length ≤ 32767) : (encV l).length ≤ 134312002 := by
  unfold encV encO
  split
  · rename_i hok
    show (bigB l.length 2 ++ encL l).length ≤ 134312002
    rw [List.length_append, bigB_len]
    have := encL_len hok.2
    omega
  · show ([] : List UInt8).length ≤ 134312002
    simp

/-- The two texts that are read, at place p of the list of them. -/
theorem two_in {W : World} {g n c m d p : Nat} {A A2 : Option Addr} {b b2 : List UInt8} (hp : p < 2) (h : Blk W g [.slice A n c, .slice A2 m d]) (s : IsSl byteRep W (· < W.heap.size) A n b) (s1 : n ≤ c) (s2 : c ≤ maxLen) (s3 : n ≤ 140737488351232) (r : IsSl byteRep W (· < W.heap.size) A2 m b2) (r1 : m ≤ d) (r2 : d ≤ maxLen) (r3 : m ≤ 140737488351232) :
    ∃ Ai ni ci bi, W.cell? ⟨g, p, none⟩ = some (.slice Ai ni ci) ∧ IsSl byteRep W (· < W.heap.size) Ai ni bi ∧ ni ≤ ci ∧ ci ≤ maxLen ∧ ni ≤ 140737488351232 := by
  obtain ⟨c0, c1, _⟩ := h.c2
  rcases (show p = 0 ∨ p = 1 by omega) with rfl | rfl
  · exact ⟨_, _, _, _, c0, s, s1, s2, s3⟩
  · exact ⟨_, _, _, _, c1, r, r1, r2, r3⟩

set_option maxRecDepth 100000 in
set_option maxHeartbeats 8000000 in
theorem txnReads_walk (w : World) (A : Option Addr) (n c : Nat) (b : List UInt8) (h : IsSl byteRep w (· < w.heap.size) A n b) (h1 : n ≤ c) (h2 : c ≤ maxLen) (hz : c * 1 ≤ 140737488351232) (A' : Option Addr) (n' c' : Nat) (l : List Fld) (h' : IsSl fldRep w (· < w.heap.size) A' n' l) (h1' : n' ≤ c') (h2' : c' ≤ maxLen) (hz' : c' * 32 ≤ 140737488351232) :
    Calls Try.prog 12 #[.slice A n c, .slice A' n' c'] w fun e w' => e = .returned (.bool true) ∧ Below w.heap.size w w' := by
  obtain ⟨i0, hi, hz0, hz1, hz2⟩ := info_parts info_byte
  have H := Lib.hid h
  have HL := Lib.hid h.len
  have H' := Lib.hid h'
  have HL' := Lib.hid h'.len
  clear h h'
  by_cases hbig : 300 < n'
  · go_enter Try.func12, Try.ntmps12
    go_wp2_with (go_at_call 44; (with_reducible refine (awake07_any _).mono ?_); rintro e w1 ⟨rfl, hb1⟩)
    go_ret
    exact ⟨rfl, hb1⟩
  · have hn : n' ≤ 300 := by omega
    clear hbig
    go_enter Try.func12, Try.ntmps12
    go_wp2_with (first
      | (go_at_call 55; (with_reducible refine (refencode_any A' n' c' l _ H'.out (by omega)).mono ?_); rintro e w2 ⟨v2, rfl, own2, bel2⟩; obtain ⟨A2, c2, rfl, hl2, hm2, sl2⟩ := own2.isSlB; have SL2 := Lib.hid sl2; have H2 := Lib.hid ((H.out.below bel2).more bel2.size); have B2 := Lib.hid bel2; have HE := Lib.hid (show (encV l).length ≤ 140737488351232 by have := encV_small (l := l) (by rw [← HL'.out]; omega); omega); clear own2 sl2 bel2)
      | fail)
    obtain ⟨m, hm⟩ : ∃ m, m = (encV l).length := ⟨_, rfl⟩
    rw [← hm] at SL2 HE hl2 ⊢
    clear hm
    obtain ⟨W, hW⟩ : ∃ W, W = w2.alloc (.cells #[.slice A n c, .slice A2 m c2] 84) := ⟨_, rfl⟩
    have hWb : Below w2.heap.size w2 W := by rw [hW]; exact (Below.refl _ _).alloc (Nat.le_refl _) _
    have BK := Lib.hid (show Blk W w2.heap.size [.slice A n c, .slice A2 m c2] by rw [hW]; exact Blk.new rfl rfl)
    have S1 := Lib.hid ((H2.out.below hWb).more hWb.size)
    have S2 := Lib.hid ((SL2.out.below hWb).more hWb.size)
    have BW := Lib.hid (B2.out.trans (hWb.mono B2.out.size))
    have HE' := HE.out
    rw [← hW]
    clear hW hWb
    go_loopw [8] (fun i wr => ∃ p : Nat, i = .int .i64 p ∧ p ≤ 2 ∧ Below W.heap.size W wr) (fun i _ => 2 - (intOf i).toNat)
    case atStart => exact ⟨0, rfl, by omega, Below.refl _ _⟩
    case round =>
      obtain ⟨p, rfl, hp2, hbel⟩ := hrel
      by_cases hp : p < 2
      · have hd : decide ((p : Int) < 2) = true := decide_eq_true (by omega)
        have hd2 : (p : Int) < 2 := by omega
        obtain ⟨Ai, ni, ci, bi, kc, si, l1, l2, l3⟩ := two_in hp BK.out S1.out h1 h2 (by omega) S2.out hl2 hm2 HE'
        have hsz := hbel.size
        have hgl : w2.heap.size < wr.heap.size := Nat.lt_of_lt_of_le BK.out.lt hsz
        have k0 := (hbel.cell (p := ⟨w2.heap.size, p, none⟩) BK.out.lt).trans kc
        have SI := Lib.hid ((si.below hbel).more hsz)
        have HLI := Lib.hid si.len
        have hb0 : Below wr.heap.size wr (wr.alloc (.cells #[] 5)) := (Below.refl _ _).alloc (Nat.le_refl _) _
        have DS := Lib.hid (decT_same bi)
        have DL := Lib.hid (decTV_len bi)
        clear kc si
        go_wp2_with (first
          | (at_builtin; refine wpList_append_Own _ rfl _ _ 84 rfl wr.heap.size 5 i0 _ 1 Try.underlying84 hi hz0 hz1 hz2 rfl (R := byteRep) (S := fun _ => False) (l := []) (l' := bi) (.slice (some ⟨wr.heap.size, 0, none⟩) 0 0) rfl (Own.nil _ _ _ (fun _ h => h.elim) _ _) Ai ni ci rfl (SI.out.srcF flat_byte hb0) (by simp [maxLen]; omega) (by simp; omega) (by omega) (by simp) ?_; intro v1 w1 own1 gr1 at1; have bel1 := hb0.grown gr1 (by simp) (by intro k hk; simp [rowOf] at hk); simp only [List.nil_append] at own1; obtain ⟨A1, c1, rfl, hlc1, hcm1, sl1⟩ := own1.isSlB; rw [← HLI.out] at hlc1 sl1 ⊢; have SL1 := Lib.hid sl1; have hs1 := bel1.size; have B1 := Lib.hid bel1; clear gr1 at1 own1 sl1 bel1)
          | (go_at_call 53; (with_reducible refine (txnDecode_any A1 ni c1 bi _ SL1.out hlc1 hcm1).mono ?_); rintro e w3 ⟨A3, n3, c3, A4, n4, c4, rfl, s3, _, _, s4, _, _, bel3⟩; have B3 := Lib.hid ((B1.out.trans (bel3.mono hs1)).alloc (Nat.le_trans hs1 bel3.size) (.cells #[.int .i64 (decTV bi).lsn, .int .i64 (decTV bi).kind, .slice A3 n3 c3, .slice A4 n4 c4, .int .i64 (decTV bi).mark] 68)); have T3 := Lib.hid (Blk.new (w := w3) (cs := #[.int .i64 (decTV bi).lsn, .int .i64 (decTV bi).kind, .slice A3 n3 c3, .slice A4 n4 c4, .int .i64 (decTV bi).mark]) (t := 68) rfl rfl); have bw3 : Below w3.heap.size w3 (w3.alloc (.cells #[.int .i64 (decTV bi).lsn, .int .i64 (decTV bi).kind, .slice A3 n3 c3, .slice A4 n4 c4, .int .i64 (decTV bi).mark] 68)) := (Below.refl _ _).alloc (Nat.le_refl _) _; have X3 := Lib.hid ((s3.below bw3).more bw3.size); have X4 := Lib.hid ((s4.below bw3).more bw3.size); have XL := Lib.hid s3.len; have XL4 := Lib.hid s4.len; have k0 := (B3.out.cell (p := ⟨w2.heap.size, p, none⟩) hgl).trans k0; have SI3 := Lib.hid ((SI.out.below B3.out).more B3.out.size); clear s3 s4 bel3 bw3)
          | (go_at_call 56; (with_reducible refine (reftxnDecode_any Ai ni ci bi _ SI3.out l1 l2).mono ?_); rintro e w4 ⟨B3', m3, d3, B4', m4, d4, rfl, r3, _, _, r4, _, _, bel4⟩; rw [DS.out.1, DS.out.2]; rw [DS.out.1] at r3 r4; have B4 := Lib.hid ((B3.out.trans (bel4.mono B3.out.size)).alloc (Nat.le_trans B3.out.size bel4.size) (.cells #[.int .i64 (decTV bi).lsn, .int .i64 (decTV bi).kind, .slice B3' m3 d3, .slice B4' m4 d4, .int .i64 (decTV bi).mark] 68)); have T4 := Lib.hid ((T3.out.after bel4).alloc (.cells #[.int .i64 (decTV bi).lsn, .int .i64 (decTV bi).kind, .slice B3' m3 d3, .slice B4' m4 d4, .int .i64 (decTV bi).mark] 68)); have U4 := Lib.hid (Blk.new (w := w4) (cs := #[.int .i64 (decTV bi).lsn, .int .i64 (decTV bi).kind, .slice B3' m3 d3, .slice B4' m4 d4, .int .i64 (decTV bi).mark]) (t := 68) rfl rfl); have bw4 : Below w4.heap.size w4 (w4.alloc (.cells #[.int .i64 (decTV bi).lsn, .int .i64 (decTV bi).kind, .slice B3' m3 d3, .slice B4' m4 d4, .int .i64 (decTV bi).mark] 68)) := (Below.refl _ _).alloc (Nat.le_refl _) _; have Y3 := Lib.hid ((r3.below bw4).more bw4.size); have Y4 := Lib.hid ((r4.below bw4).more bw4.size); have Z3 := Lib.hid ((((X3.out.below bel4).more bel4.size).below bw4).more bw4.size); have Z4 := Lib.hid ((((X4.out.below bel4).more bel4.size).below bw4).more bw4.size); obtain ⟨t0, t1, t2, t3, t4, tz⟩ := T4.out.c5; obtain ⟨u0, u1, u2, u3, u4, uz⟩ := U4.out.c5; clear r3 r4 bel4 bw4)
          | (go_at_call 54; (with_reducible refine (sametxn_any (decTV bi) A3 n3 c3 A4 n4 c4 B3' m3 d3 B4' m4 d4 _ Z3.out Z4.out Y3.out Y4.out (by rw [XL.out]; have := DL.out.1; omega) (by rw [XL4.out]; have := DL.out.2; omega)).mono ?_); rintro e w6 ⟨rfl, bel6⟩; have B6 := Lib.hid (B4.out.trans (bel6.mono B4.out.size)); clear bel6)
          | fail)
        go_roundw
        case rel => exact ⟨p + 1, by go_num, by omega, hbel.trans (B6.out.mono hsz)⟩
        case measure => simp [intOf]; omega
      · have hd : decide ((p : Int) < 2) = false := decide_eq_false (by omega)
        go_wp2_with (go_at_call 44; (with_reducible refine (awake07_any _).mono ?_); rintro e w1 ⟨rfl, hb1⟩)
        go_ret
        exact ⟨rfl, BW.out.trans ((hbel.trans (hb1.mono hbel.size)).mono BW.out.size)⟩
end Go.Proofs.Ytojjeogpggielaa
