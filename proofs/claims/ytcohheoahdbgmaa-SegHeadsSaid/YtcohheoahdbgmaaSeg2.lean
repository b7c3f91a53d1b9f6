/- Contracts: the reader's head, seg.Read. Written by gen_seg.py. -/
import Derived.Test.YtcohheoahdbgmaaSeg1
import Derived.Test.YtcohheoahdbgmaaScan
import Derived.Test.YtcohheoahdbgmaaFld4
import Derived.Test.YtcohheoahdbgmaaBlk
import Derived.Deep.RegionHeld3
import Derived.Deep.QuietTactic
import Derived.BigQuiet
import Derived.Deep.Cut
set_option linter.unusedVariables false
set_option linter.unusedSimpArgs false
set_option maxRecDepth 100000
namespace Go.Proofs.Ytcohheoahdbgmaa
open Go.RowKit

theorem IsSl.afterW {α : Type} {R : Rep α} {w w' : World} {A : Option Addr} {n : Nat} {l : List α} (h : IsSl R w (· < w.heap.size) A n l) (hb : Below w.heap.size w w') : IsSl R w' (· < w.heap.size) A n l := h.below hb

/-- The first of some records, where they lie. -/
theorem IsSl.first {w : World} {S : Nat → Prop} {A : Option Addr} {n : Nat} {p : List UInt8} {r : List (List UInt8)} (h : IsSl (sliceRep byteRep) w S A n (p :: r)) :
    ∃ b off A1 n1 c1, A = some ⟨b, off, none⟩ ∧ S b ∧ IsSl byteRep w S A1 n1 p ∧ n1 ≤ c1 ∧ c1 ≤ maxLen ∧ w.cell? ⟨b, off, none⟩ = some (.slice A1 n1 c1) := by
  obtain ⟨b, off, a, cs, rfl, hb, ha, ⟨A1, n1, c1, rfl, h1, h2, h3⟩, hc⟩ := h.at_ (k := 0) (by have := h.len; simp at this; omega)
  obtain rfl : p = a := by simpa using ha
  exact ⟨b, off, A1, n1, c1, rfl, hb, h1, h2, h3, by simpa using hc 0 _ rfl⟩
/-- One field, where it lies. -/
theorem IsSl.fld1 {w : World} {S : Nat → Prop} {A : Option Addr} {n : Nat} {f : Fld} (h : IsSl fldRep w S A n [f]) :
    ∃ b off, A = some ⟨b, off, none⟩ ∧ S b ∧ w.cell? ⟨b, off, none⟩ = some (.int .i64 f.kind) ∧ w.cell? ⟨b, off + 1, none⟩ = some (.int .i64 f.n) := by
  obtain ⟨b, off, a, cs, rfl, hb, ha, ⟨rfl, _⟩, hc⟩ := h.at_ (k := 0) (by have := h.len; simp at this; omega)
  obtain rfl : f = a := by simpa using ha
  exact ⟨b, off, rfl, hb, by simpa using hc 0 _ rfl, by simpa using hc 1 _ rfl⟩

theorem rows_tail {w : World} {S : Nat → Prop} {g n : Nat} {L : List (List UInt8)} (h : IsSl (sliceRep byteRep) w S (some ⟨g, 0, none⟩) n L) (h1 : 1 ≤ n) : IsSl (sliceRep byteRep) w S (some ⟨g, 1, none⟩) (n - 1) (L.drop 1) :=
  h.from_ h1 (fun _ b off e => by
    injection e with e
    injection e with e1 e2 _
    subst e1 e2
    rfl)
theorem rows_end {w : World} {S : Nat → Prop} {A A' : Option Addr} {L : List (List UInt8)} (h : IsSl (sliceRep byteRep) w S A 1 L) : IsSl (sliceRep byteRep) w S A' 0 (L.drop 1) := by
  rw [List.drop_eq_nil_of_le (by rw [← h.len]; exact Nat.le_refl _)]
  exact IsSl.nil

/-- How the test on a head goes: which part of it decides. -/
theorem hd_ways (p : List UInt8) : ((decE p != 0) = true ∧ decide (decE p = 0) = false) ∨
    ((decE p = 0 ∧ (((decV p).length : Int) != 1) = true ∧ hdOk (decV p) = false) ∨
    (∃ f, decE p = 0 ∧ decV p = [f] ∧
      (((f.kind != 1) = true ∧ hdOk [f] = false) ∨ (f.kind = 1 ∧ decide (f.n < 1) = true ∧ hdOk [f] = false) ∨ (f.kind = 1 ∧ decide (f.n < 1) = false ∧ decide (1099511627776 < f.n) = true ∧ hdOk [f] = false) ∨
        (f.kind = 1 ∧ decide (f.n < 1) = false ∧ decide (1099511627776 < f.n) = false ∧ hdOk [f] = true)))) := by
  by_cases h0 : decE p = 0
  · right
    by_cases h1 : (decV p).length = 1
    · right
      obtain ⟨f, hf⟩ : ∃ f, decV p = [f] := List.length_eq_one_iff.mp h1
      refine ⟨f, h0, hf, ?_⟩
      by_cases hk : f.kind = 1
      · right
        have hkd : decide (f.kind = 1) = true := decide_eq_true hk
        by_cases hl : f.n < 1
        · left
          refine ⟨hk, decide_eq_true hl, ?_⟩
          show (decide (f.kind = 1) && (decide (1 ≤ f.n) && decide (f.n ≤ 1099511627776))) = false
          rw [decide_eq_false (p := 1 ≤ f.n) (by omega), Bool.false_and, Bool.and_false]
        · right
          by_cases hg : 1099511627776 < f.n
          · left
            refine ⟨hk, decide_eq_false hl, decide_eq_true hg, ?_⟩
            show (decide (f.kind = 1) && (decide (1 ≤ f.n) && decide (f.n ≤ 1099511627776))) = false
            rw [decide_eq_false (p := f.n ≤ 1099511627776) (by omega), Bool.and_false, Bool.and_false]
          · right
            refine ⟨hk, decide_eq_false hl, decide_eq_false hg, ?_⟩
            show (decide (f.kind = 1) && (decide (1 ≤ f.n) && decide (f.n ≤ 1099511627776))) = true
            rw [hkd, decide_eq_true (p := 1 ≤ f.n) (by omega), decide_eq_true (p := f.n ≤ 1099511627776) (by omega)]
            rfl
      · left
        refine ⟨by simpa using hk, ?_⟩
        show (decide (f.kind = 1) && (decide (1 ≤ f.n) && decide (f.n ≤ 1099511627776))) = false
        rw [decide_eq_false hk, Bool.false_and]
    · left
      refine ⟨h0, by simp; omega, ?_⟩
      generalize decV p = l at h1 ⊢
      rcases l with _ | ⟨x, _ | ⟨y, r⟩⟩
      · rfl
      · exact absurd rfl h1
      · rfl
  · exact .inl ⟨by simpa using h0, decide_eq_false h0⟩

set_option maxHeartbeats 8000000 in
theorem segHd_any (g : Nat) (A : Option Addr) (n c : Nat) (L : List (List UInt8)) (nn : Int) (w : World) (h : IsSl (sliceRep byteRep) w (· < g) A n L) (hb : Blk w g [.slice A n c, .int .i64 nn, .int .i64 0]) :
    Calls Try.prog 71 #[.pointer (some ⟨g, 0, none⟩)] w fun e w' => e = .returned (.bool (segOkL L)) ∧ Blk w' g [.slice A n c, .int .i64 nn, .int .i64 (if segOkL L = true then segNL L else 0)] ∧ Below g w w' := by
  have HB := Lib.hid hb
  obtain ⟨t0, t1, t2, tz⟩ := hb.c3
  have hgs := hb.lt
  clear hb
  cases L with
  | nil =>
    obtain rfl : n = 0 := h.len
    clear h
    go_enter Try.func71, Try.ntmps71
    go_wp2
    go_ret
    exact ⟨rfl, HB.out, Below.refl _ _⟩
  | cons p r =>
    have hnl : n = r.length + 1 := by have := h.len; simpa using this
    have hn0 : ((n : Int) == 0) = false := by simp; omega
    have hn1 : (0 : Int) < (n : Int) := by omega
    have hn2 : 0 < n := by omega
    obtain ⟨b, off, A1, n1, c1, rfl, hbg, s1, l1, m1, hc1⟩ := h.first
    have S1 := Lib.hid (s1.more (Nat.le_of_lt hgs))
    have HOK := Lib.hid (show segOkL (p :: r) = (decide (decE p = 0) && hdOk (decV p)) from rfl)
    have HNL := Lib.hid (show segNL (p :: r) = hdN (decV p) from rfl)
    obtain ⟨ok, hok⟩ : ∃ ok, ok = segOkL (p :: r) := ⟨_, rfl⟩
    obtain ⟨nl, hnl2⟩ : ∃ nl, nl = segNL (p :: r) := ⟨_, rfl⟩
    rw [← hok] at HOK ⊢
    rw [← hnl2] at HNL ⊢
    clear h s1 hnl hok hnl2
    rcases hd_ways p with ⟨h0, h1⟩ | ⟨h0, h1, h2⟩ | ⟨f, h0, hf, hway⟩
    · have HK : ok = false := by rw [HOK.out, h1, Bool.false_and]
      subst HK
      clear h1
      go_enter Try.func71, Try.ntmps71
      go_wp2_with (first
        | (go_at_call 51; (with_reducible refine (decode_any A1 n1 c1 p w S1.out l1 m1).mono ?_); rintro e w1 ⟨v1, rfl, own1, bel1⟩; have B1 := Lib.hid bel1; clear own1 bel1)
        | fail)
      go_ret
      exact ⟨rfl, HB.out.after B1.out, B1.out.mono (Nat.le_of_lt hgs)⟩
    · have HK : ok = false := by rw [HOK.out, h2, Bool.and_false]
      subst HK
      have HE0 := Lib.hid h0
      clear h0 h2
      go_enter Try.func71, Try.ntmps71
      go_wp2_with (first
        | (go_at_call 51; (with_reducible refine (decode_any A1 n1 c1 p w S1.out l1 m1).mono ?_); rintro e w1 ⟨v1, rfl, own1, bel1⟩; rw [HE0.out]; obtain ⟨A2, c2, rfl, l2, m2, sl2⟩ := own1.isSlB; have B1 := Lib.hid bel1; clear own1 bel1 sl2)
        | fail)
      go_ret
      exact ⟨rfl, HB.out.after B1.out, B1.out.mono (Nat.le_of_lt hgs)⟩
    · rw [hf] at HOK HNL
      have HF := Lib.hid hf
      have HE0 := Lib.hid h0
      clear h0 hf
      obtain ⟨fk, fn, fs⟩ := f
      dsimp only at hway
      rcases hway with ⟨h1, h2⟩ | ⟨h0, h1, h2⟩ | ⟨h0, h1, h3, h2⟩ | ⟨h0, h1, h3, h2⟩
      · have HK : ok = false := by rw [HOK.out, HE0.out, h2]; rfl
        subst HK
        clear h2
        go_enter Try.func71, Try.ntmps71
        go_wp2_with (first
          | (go_at_call 51; (with_reducible refine (decode_any A1 n1 c1 p w S1.out l1 m1).mono ?_); rintro e w1 ⟨v1, rfl, own1, bel1⟩; rw [HE0.out]; rw [HF.out] at own1; obtain ⟨A2, c2, rfl, l2, m2, sl2⟩ := own1.isSlB; obtain ⟨b2, off2, rfl, hb2, hk0, hk1⟩ := sl2.fld1; have B1 := Lib.hid bel1; have HB1 := Lib.hid (HB.out.after bel1); obtain ⟨y0, y1, y2, yz⟩ := HB1.out.c3; have hg1 := HB1.out.lt; clear own1 bel1 sl2)
          | fail)
        go_ret
        exact ⟨rfl, HB1.out, B1.out.mono (Nat.le_of_lt hgs)⟩
      · have HK : ok = false := by rw [HOK.out, HE0.out, h2]; rfl
        subst HK
        clear h2
        subst h0
        go_enter Try.func71, Try.ntmps71
        go_wp2_with (first
          | (go_at_call 51; (with_reducible refine (decode_any A1 n1 c1 p w S1.out l1 m1).mono ?_); rintro e w1 ⟨v1, rfl, own1, bel1⟩; rw [HE0.out]; rw [HF.out] at own1; obtain ⟨A2, c2, rfl, l2, m2, sl2⟩ := own1.isSlB; obtain ⟨b2, off2, rfl, hb2, hk0, hk1⟩ := sl2.fld1; have B1 := Lib.hid bel1; have HB1 := Lib.hid (HB.out.after bel1); obtain ⟨y0, y1, y2, yz⟩ := HB1.out.c3; have hg1 := HB1.out.lt; clear own1 bel1 sl2)
          | fail)
        go_ret
        exact ⟨rfl, HB1.out, B1.out.mono (Nat.le_of_lt hgs)⟩
      · have HK : ok = false := by rw [HOK.out, HE0.out, h2]; rfl
        subst HK
        clear h2
        subst h0
        go_enter Try.func71, Try.ntmps71
        go_wp2_with (first
          | (go_at_call 51; (with_reducible refine (decode_any A1 n1 c1 p w S1.out l1 m1).mono ?_); rintro e w1 ⟨v1, rfl, own1, bel1⟩; rw [HE0.out]; rw [HF.out] at own1; obtain ⟨A2, c2, rfl, l2, m2, sl2⟩ := own1.isSlB; obtain ⟨b2, off2, rfl, hb2, hk0, hk1⟩ := sl2.fld1; have B1 := Lib.hid bel1; have HB1 := Lib.hid (HB.out.after bel1); obtain ⟨y0, y1, y2, yz⟩ := HB1.out.c3; have hg1 := HB1.out.lt; clear own1 bel1 sl2)
          | fail)
        go_ret
        exact ⟨rfl, HB1.out, B1.out.mono (Nat.le_of_lt hgs)⟩
      · have HK : ok = true := by rw [HOK.out, HE0.out, h2]; rfl
        subst HK
        clear h2
        subst h0
        go_enter Try.func71, Try.ntmps71
        go_wp2_with (first
          | (go_at_call 51; (with_reducible refine (decode_any A1 n1 c1 p w S1.out l1 m1).mono ?_); rintro e w1 ⟨v1, rfl, own1, bel1⟩; rw [HE0.out]; rw [HF.out] at own1; obtain ⟨A2, c2, rfl, l2, m2, sl2⟩ := own1.isSlB; obtain ⟨b2, off2, rfl, hb2, hk0, hk1⟩ := sl2.fld1; have B1 := Lib.hid bel1; have HB1 := Lib.hid (HB.out.after bel1); obtain ⟨y0, y1, y2, yz⟩ := HB1.out.c3; have hg1 := HB1.out.lt; clear own1 bel1 sl2)
          | fail)
        go_ret
        rw [HNL.out]
        exact ⟨rfl, HB1.out.put (j := 2) (by simp) _ rfl, (B1.out.mono (Nat.le_of_lt hgs)).setCell (p := ⟨g, 2, none⟩) (Nat.le_refl _) _⟩

set_option maxHeartbeats 8000000 in
theorem segRead_any (A : Option Addr) (n c : Nat) (b : List UInt8) (w : World) (h : IsSl byteRep w (· < w.heap.size) A n b) (h1 : n ≤ c) (h2 : c ≤ maxLen) (hz : n ≤ 35184372088832) :
    Calls Try.prog 35 #[.slice A n c] w fun e w' => ∃ A2 n2 c2, e = .returned (.tuple #[.int .i64 (segF b), .slice A2 n2 c2, .int .i64 (segK b : Int), .int .i64 (segE b)]) ∧ IsSl (sliceRep byteRep) w' (· < w'.heap.size) A2 n2 (segR b) ∧ n2 ≤ c2 ∧ c2 ≤ maxLen ∧ Below w.heap.size w w' := by
  have H := Lib.hid h
  clear h
  obtain ⟨L, hL⟩ : ∃ L, L = (scanL b).1 := ⟨_, rfl⟩
  obtain ⟨K, hK⟩ : ∃ K, K = (scanL b).2 := ⟨_, rfl⟩
  have HL := Lib.hid hL
  have HK := Lib.hid hK
  have HOK := Lib.hid (show segOkL L = segOk b by rw [hL]; rfl)
  clear hL hK
  cases hok : segOk b
  · have HN := Lib.hid (seg_no hok)
    rw [hok] at HOK
    clear hok
    go_enter Try.func35, Try.ntmps35
    go_wp2_with (first
      | (go_at_call 70; (with_reducible refine (scan_any A n c b w H.out h1 h2 hz).mono ?_); rintro e w1 ⟨v1, S1, rfl, own1, bel1⟩; rw [← HK.out]; rw [← HL.out] at own1; obtain ⟨A1, c1, rfl, l1, m1, sl1⟩ := own1.isSl (S' := (· < w1.heap.size)) (fun q hq => own1.1 q hq) (fun _ _ h => h); obtain ⟨n1, hn1⟩ : ∃ n, n = L.length := ⟨_, rfl⟩; rw [← hn1] at sl1 l1 ⊢; have SL1 := Lib.hid (sl1.afterW ((Below.refl w1.heap.size w1).alloc (Nat.le_refl _) (.cells #[.slice A1 n1 c1, .int .i64 (K : Int), .int .i64 0] 106))); have B1 := Lib.hid (bel1.alloc bel1.size (.cells #[.slice A1 n1 c1, .int .i64 (K : Int), .int .i64 0] 106)); have hs1 := bel1.size; clear own1 sl1 bel1 hn1)
      | (go_at_call 71; (with_reducible refine (segHd_any w1.heap.size A1 n1 c1 L (K : Int) _ SL1.out (Blk.new rfl rfl)).mono ?_); rintro e w2 ⟨rfl, hb2, bel2⟩; rw [HOK.out]; have B2 := Lib.hid (B1.out.trans (bel2.mono hs1)); clear hb2 bel2)
      | fail)
    refine bodyPost_ret (by simp [results, Try.results35, go_sem]; try rfl) rfl ?_
    rw [HN.out.1, HN.out.2.1, HN.out.2.2.1, HN.out.2.2.2]
    exact ⟨none, 0, 0, rfl, IsSl.nil, Nat.le_refl _, Nat.zero_le _, B2.out⟩
  · have HY := Lib.hid (seg_yes hok)
    rw [hok] at HOK
    clear hok
    go_enter Try.func35, Try.ntmps35
    go_upto_region 5 with (first
      | (go_at_call 70; (with_reducible refine (scan_any A n c b w H.out h1 h2 hz).mono ?_); rintro e w1 ⟨v1, S1, rfl, own1, bel1⟩; rw [← HK.out]; rw [← HL.out] at own1; have hne : L ≠ [] := (by rintro rfl; exact absurd HOK.out (by decide)); obtain ⟨g1, c1, rfl, -⟩ := own1.form1 hne; obtain ⟨A1, c1', hv1, l1, m1, sl1⟩ := own1.isSl (S' := (· < w1.heap.size)) (fun q hq => own1.1 q hq) (fun _ _ h => h); injection hv1 with e1 _ e2; subst e1 e2; obtain ⟨n1, hn1⟩ : ∃ n, n = L.length := ⟨_, rfl⟩; rw [← hn1] at sl1 l1 ⊢; have hn0 : 0 < n1 := (by rw [hn1]; exact List.length_pos_iff.mpr hne); have SL1 := Lib.hid (sl1.afterW ((Below.refl w1.heap.size w1).alloc (Nat.le_refl _) (.cells #[.slice (some ⟨g1, 0, none⟩) n1 c1, .int .i64 (K : Int), .int .i64 0] 106))); have B1 := Lib.hid (bel1.alloc bel1.size (.cells #[.slice (some ⟨g1, 0, none⟩) n1 c1, .int .i64 (K : Int), .int .i64 0] 106)); have hs1 := bel1.size; clear own1 sl1 bel1 hn1 hne)
      | (go_at_call 71; (with_reducible refine (segHd_any w1.heap.size (some ⟨g1, 0, none⟩) n1 c1 L (K : Int) _ SL1.out (Blk.new rfl rfl)).mono ?_); rintro e w2 ⟨rfl, hb2, bel2⟩; rw [HOK.out]; rw [HOK.out, if_pos rfl] at hb2; have HB2 := Lib.hid hb2; obtain ⟨x0, x1, x2, xz⟩ := hb2.c3; have B2 := Lib.hid (B1.out.trans (bel2.mono hs1)); have SL2 := Lib.hid ((SL1.out.below bel2).more (show w1.heap.size ≤ w2.heap.size by have := bel2.size; simp at this; omega)); have hg2 := hb2.lt; clear hb2 bel2)
      | fail)
    have hl1 : n1 ≤ c1 := l1
    have hn0i : (0 : Int) < (n1 : Int) := by omega
    have h1n : (1 : Int) ≤ (n1 : Int) := by omega
    have h1c : (1 : Int) ≤ (c1 : Int) := by omega
    have hnc : (n1 : Int) ≤ (c1 : Int) := by omega
    have HY2 := HY.out
    rw [← HL.out, ← HK.out] at HY2
    have HZ := Lib.hid HY2
    have SL3 := Lib.hid (show IsSl (sliceRep byteRep) w2 (· < w2.heap.size) (some ⟨g1, 0, none⟩) n1 L from SL2.out)
    clear HY2
    by_cases hc : c1 = 1
    · subst hc
      obtain rfl : n1 = 1 := by omega
      go_quiet (fail)
      go_wp2_with fail
      refine bodyPost_ret (by simp [results, Try.results35, go_sem]; try rfl) rfl ?_
      rw [HZ.out.1, HZ.out.2.1, HZ.out.2.2.1, HZ.out.2.2.2]
      exact ⟨some ⟨g1, 0, none⟩, 0, 0, rfl, (rows_end SL3.out).keep (fun _ _ => rfl), Nat.le_refl _, Nat.zero_le _, below_drewN B2.out nq⟩
    · have hc2 : ((c1 : Int) == 1) = false := by simp; omega
      have hc3 : ¬ (c1 : Int) = 1 := by omega
      have hc4 : ¬ (1 : Int) = (c1 : Int) := by omega
      go_quiet (fail)
      go_wp2_with fail
      refine bodyPost_ret (by simp [results, Try.results35, go_sem]; try rfl) rfl ?_
      rw [HZ.out.1, HZ.out.2.1, HZ.out.2.2.1, HZ.out.2.2.2]
      exact ⟨some ⟨g1, 1, none⟩, n1 - 1, c1 - 1, rfl, (rows_tail SL3.out (by omega)).keep (fun _ _ => rfl), by omega, by omega, below_drewN B2.out nq⟩
end Go.Proofs.Ytcohheoahdbgmaa
