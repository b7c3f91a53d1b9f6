/- The walk of RecReads. -/
import Derived.Test.YtfpmpihojjegbaaScan
import Derived.Test.YtfpmpihojjegbaaMany
set_option linter.unusedVariables false
namespace Go.Proofs.Ytfpmpihojjegbaa
open Go.RowKit

theorem scanF_len : ∀ (k : Nat) (b : List UInt8), (scanF k b).1.length * 8 ≤ b.length
  | 0, b => by simp [scanF]
  | k + 1, b => by
    rw [scanF]
    split
    · rename_i e
      obtain ⟨h8, hl⟩ := take_le e
      have ih := scanF_len k (b.drop (takeK b))
      rw [List.length_drop] at ih
      simp only [List.length_cons]
      omega
    · simp

theorem scan_len (b : List UInt8) : (scanL b).1.length * 8 ≤ b.length := scanF_len _ b

/-- A literal of bytes is owned. -/
theorem Own.litB {w : World} {base : Nat} {t : TypeId} (l : List UInt8) {cs : Array Value} (hcs : cs = (byteVals l).toArray) {n : Nat} (hn : n = l.length) (hb : base ≤ w.heap.size) (hm : l.length ≤ maxLen) :
    Own byteRep (w.alloc (.cells cs t)) base (fun _ => False) t (.slice (some ⟨w.heap.size, 0, none⟩) n n) l := by
  subst hn
  refine ⟨fun _ h => h.elim, .inr ⟨w.heap.size, l.length, cs, _, rfl, hb, fun h => h, ?_, Nat.le_refl _, hm, ?_, rows_bytes l, ?_⟩⟩
  · exact heap_alloc_new w _
  · rw [hcs]; show _ = l.length * 1; simp [byteVals]
  · rw [flat_bytes, hcs]; show List.take (l.length * 1) _ = _; rw [Nat.mul_one, List.take_of_length_le (by simp [byteVals])]

set_option maxRecDepth 4000 in
set_option maxHeartbeats 2000000 in
theorem recReads_walk (w : World) (A : Option Addr) (n c : Nat) (b : List UInt8) (h : IsSl byteRep w (· < w.heap.size) A n b) (h1 : n ≤ c) (h2 : c ≤ maxLen) (hz : c ≤ 1048576) (nb : Int) (hnb : (Lit.int .u8 nb).wf = true) :
    Calls Try.prog 12 #[.slice A n c, .int .u8 nb] w fun e w' => e = .returned (.bool true) ∧ Below w.heap.size w w' := by
  have hs' : 0 ≤ nb ∧ nb < 256 := by
    simp [Lit.wf, IntKind.min, IntKind.max, IntKind.bits, IntKind.signed] at hnb
    omega
  obtain ⟨x, hx⟩ : ∃ x : UInt8, nb = (x.toNat : Int) := ⟨UInt8.ofNat nb.toNat, by rw [UInt8.toNat_ofNat']; omega⟩
  subst hx
  clear hs' hnb
  have H := Lib.hid h
  have HL := Lib.hid h.len
  have hn : n ≤ 1048576 := by omega
  clear h
  obtain ⟨i0, hi, hz0, hz1, hz2⟩ := info_parts info_byte
  have hl4 : ([0, 0, 0, x] : List UInt8).length = 4 := rfl
  have HL4 := Lib.hid hl4
  have HLB := Lib.hid (show ([0, 0, 0, x] ++ b).length = 4 + n by rw [List.length_append, hl4, ← HL.out])
  have OL : ∀ W : World, Own byteRep (W.alloc (.cells #[.int .u8 0, .int .u8 0, .int .u8 0, .int .u8 (x.toNat : Int)] 5)) W.heap.size (fun _ => False) 5 (.slice (some ⟨W.heap.size, 0, none⟩) 4 4) [0, 0, 0, x] := fun W => Own.litB [0, 0, 0, x] rfl rfl (Nat.le_refl _) (by rw [hl4]; unfold maxLen; omega)
  clear hl4
  go_enter Try.func12, Try.ntmps12
  go_wp2_with (first
    | (go_at_call 30; (with_reducible refine (awake03_any _).mono ?_); rintro e w1 ⟨rfl, bel1⟩; have BEL1 := Lib.hid bel1; have hs1 := bel1.size; clear bel1)
    | (at_builtin; refine wpList_append_Own _ rfl (.tmp 21) (.tmp 22) 27 rfl w1.heap.size 5 i0 _ 1 Try.underlying27 hi hz0 hz1 hz2 rfl (R := byteRep) (S := fun _ => False) (l := [0, 0, 0, x]) (l' := b) (.slice (some ⟨w1.heap.size, 0, none⟩) 4 4) rfl (OL w1) A n c rfl ((H.out).srcF flat_byte (BEL1.out.alloc hs1 _)) (by rw [HL4.out]; simp only [maxLen]; omega) (by rw [HL4.out]; omega) (by omega) (by simp) ?_; intro v2 w2 own2 gr2 at2; have bel2 := ((Below.refl w1.heap.size w1).alloc (Nat.le_refl _) _).grown gr2 (by simp) (by intro k hk; simp [rowOf] at hk; omega); clear gr2 at2; obtain ⟨A2, c2, rfl, hc21, hc22, sl2⟩ := own2.isSlB; rw [HLB.out] at hc21 sl2 ⊢; have SL2 := Lib.hid sl2; have hs2 := bel2.size; have BEL2 := Lib.hid (BEL1.out.trans (bel2.mono hs1)); clear own2 sl2 bel2)
    | fail)
  have bwa := (Below.refl w2.heap.size w2).alloc (Nat.le_refl _) (.cells #[.slice A n c, .slice A2 (4 + n) c2] 27)
  have hpair : ∀ i : Nat, i < 2 → ∃ A' n' c' l', (w2.alloc (.cells #[.slice A n c, .slice A2 (4 + n) c2] 27)).cell? ⟨w2.heap.size, i, none⟩ = some (.slice A' n' c') ∧ IsSl byteRep (w2.alloc (.cells #[.slice A n c, .slice A2 (4 + n) c2] 27)) (· < (w2.alloc (.cells #[.slice A n c, .slice A2 (4 + n) c2] 27)).heap.size) A' n' l' ∧ n' ≤ c' ∧ c' ≤ maxLen ∧ n' ≤ 1048580 := by
    intro i hi
    have : i = 0 ∨ i = 1 := by omega
    rcases this with rfl | rfl
    · exact ⟨A, n, c, b, World.cell?_alloc_at _ _ _ _ rfl, (((H.out.below BEL2.out).more BEL2.out.size).below bwa).more bwa.size, h1, h2, by omega⟩
    · exact ⟨A2, 4 + n, c2, _, World.cell?_alloc_at _ _ _ _ rfl, (SL2.out.below bwa).more bwa.size, hc21, hc22, by omega⟩
  have hgW : w2.heap.size < (w2.alloc (.cells #[.slice A n c, .slice A2 (4 + n) c2] 27)).heap.size := by simp
  have BELW := Lib.hid (BEL2.out.trans (bwa.mono BEL2.out.size))
  obtain ⟨W, hW⟩ : ∃ W, W = w2.alloc (.cells #[.slice A n c, .slice A2 (4 + n) c2] 27) := ⟨_, rfl⟩
  obtain ⟨g, hg⟩ : ∃ g, g = w2.heap.size := ⟨_, rfl⟩
  rw [← hW] at hpair hgW BELW ⊢
  rw [← hg] at hpair hgW ⊢
  clear bwa hW hg hc21 hc22 SL2 OL
  go_loopw [6] (fun i wr => ∃ p : Nat, i = .int .i64 p ∧ p ≤ 2 ∧ Below W.heap.size W wr) (fun i _ => 2 - (intOf i).toNat)
  case atStart => exact ⟨0, rfl, by omega, Below.refl _ _⟩
  case round =>
    obtain ⟨p, rfl, hp, hbel⟩ := hrel
    have hs := hbel.size
    by_cases hlt : p < 2
    · obtain ⟨A', n', c', l', hc, sl, hn1', hc2', hn2'⟩ := hpair p hlt
      have hc0 : wr.cell? ⟨g, p, none⟩ = some (.slice A' n' c') := (hbel.cell (p := ⟨g, p, none⟩) hgW).trans hc
      have SL := Lib.hid ((sl.below hbel).more hs)
      have hlen : n' = l'.length := sl.len
      have hsc := scan_len l'
      rw [← hlen] at hsc
      have HSC := Lib.hid hsc
      clear hpair hc sl hlen hsc
      go_wp2_with (first
        | (go_at_call 32; (with_reducible refine (take_any A' n' c' l' _ SL.out hn1' hc2').mono ?_); rintro e w4 ⟨v4, rfl, own4, bel4⟩; obtain ⟨A4, c4, rfl, hc41, hc42, sl4⟩ := own4.isSlB; have BEL4 := Lib.hid bel4; have hs4 := bel4.size; have SL4 := Lib.hid sl4; have hc4 := (bel4.cell (p := ⟨g, p, none⟩) (Nat.lt_of_lt_of_le hgW hs)).trans hc0; clear own4 sl4 bel4)
        | (go_at_call 33; (with_reducible refine (reftake_any A' n' c' l' _ ((SL.out.below BEL4.out).more hs4) hn1' hc2').mono ?_); rintro e w5 ⟨v5, rfl, own5, bel5⟩; obtain ⟨A5, c5, rfl, hc51, hc52, sl5⟩ := own5.isSlB; have SL45 := Lib.hid ((SL4.out.below bel5).more bel5.size); have BEL5 := Lib.hid (BEL4.out.trans (bel5.mono hs4)); have hs5 := BEL5.out.size; have SL5 := Lib.hid sl5; have hc5 := (BEL5.out.cell (p := ⟨g, p, none⟩) (Nat.lt_of_lt_of_le hgW hs)).trans hc0; clear own5 sl5 bel5)
        | (go_at_call 34; (with_reducible refine (scan_any A' n' c' l' _ ((SL.out.below BEL5.out).more hs5) hn1' hc2' (by omega)).mono ?_); rintro e w6 ⟨v6, S6, rfl, own6, bel6⟩; obtain ⟨A6, c6, rfl, hc61, hc62, sl6⟩ := own6.isSl (S' := (· < w6.heap.size)) (fun q hq => own6.1 q hq) (fun _ _ h => h); have SL46 := Lib.hid ((SL45.out.below bel6).more bel6.size); have SL56 := Lib.hid ((SL5.out.below bel6).more bel6.size); have BEL6 := Lib.hid (BEL5.out.trans (bel6.mono hs5)); have hs6 := BEL6.out.size; have SL6 := Lib.hid sl6; have hc6 := (BEL6.out.cell (p := ⟨g, p, none⟩) (Nat.lt_of_lt_of_le hgW hs)).trans hc0; clear own6 sl6 bel6)
        | (go_at_call 35; (with_reducible refine (refscan_any A' n' c' l' _ ((SL.out.below BEL6.out).more hs6) hn1' hc2' (by omega)).mono ?_); rintro e w7 ⟨v7, S7, rfl, own7, bel7⟩; obtain ⟨A7, c7, rfl, hc71, hc72, sl7⟩ := own7.isSl (S' := (· < w7.heap.size)) (fun q hq => own7.1 q hq) (fun _ _ h => h); have SL47 := Lib.hid ((SL46.out.below bel7).more bel7.size); have SL57 := Lib.hid ((SL56.out.below bel7).more bel7.size); have SL67 := Lib.hid ((SL6.out.below bel7).more bel7.size); have BEL7 := Lib.hid (BEL6.out.trans (bel7.mono hs6)); have hs7 := BEL7.out.size; have SL7 := Lib.hid sl7; clear own7 sl7 bel7)
        | (go_at_call 18; (with_reducible refine (bytes_any A4 A5 _ c4 _ c5 (takeV l') _ _ _ SL47.out SL57.out).mono ?_); rintro e w' ⟨rfl, rfl⟩)
        | (go_at_call 36; (with_reducible refine (many_any A6 A7 _ _ c6 c7 (scanL l').1 _ SL67.out SL7.out (by have := HSC.out; omega)).mono ?_); rintro e w8 ⟨rfl, bel8⟩; have BEL8 := Lib.hid (BEL7.out.trans (bel8.mono hs7)); clear bel8)
        | fail)
      go_roundw
      case rel => exact ⟨p + 1, by go_num, by omega, hbel.trans (BEL8.out.mono hs)⟩
      case measure => simp [intOf]; omega
    · go_wp2_with fail
      go_ret
      exact ⟨rfl, BELW.out.trans (hbel.mono BELW.out.size)⟩
end Go.Proofs.Ytfpmpihojjegbaa
