/- The walk of the law ImageReads. -/
import Derived.Test.YthhpddiicnjmmaaImg8
import Derived.Test.YthhpddiicnjmmaaMemB
import Derived.Test.YthhpddiicnjmmaaHelpTab
set_option linter.unusedVariables false
set_option linter.unusedSimpArgs false
set_option maxRecDepth 100000
namespace Go.Proofs.Ythhpddiicnjmmaa
open Go.RowKit

/-- Fields as one record; nothing, where they are none. -/
def recordB (l : List Fld) : List UInt8 := if encE l = 0 then putV (encV l) else []
theorem recordB_len (l : List Fld) : (recordB l).length ≤ 1048584 := by
  unfold recordB
  split
  · unfold putV
    split
    · rw [putB_len]; omega
    · simp
  · simp
theorem encV_small {l : List Fld} (h : l.length ≤ 32767) : (encV l).length ≤ 134312002 := by
  unfold encV encO
  split
  · rename_i hok
    show (bigB l.length 2 ++ encL l).length ≤ 134312002
    rw [List.length_append, bigB_len]
    have := encL_len hok.2
    omega
  · show ([] : List UInt8).length ≤ 134312002
    simp

set_option maxHeartbeats 4000000 in
theorem record10_any (A : Option Addr) (n c : Nat) (l : List Fld) (w : World) (h : IsSl fldRep w (· < w.heap.size) A n l) (hn : n ≤ 32767) :
    Calls Try.prog 21 #[.slice A n c] w fun e w' => ∃ A2 c2, e = .returned (.slice A2 (recordB l).length c2) ∧ IsSl byteRep w' (· < w'.heap.size) A2 (recordB l).length (recordB l) ∧ (recordB l).length ≤ c2 ∧ c2 ≤ maxLen ∧ Below w.heap.size w w' := by
  have H := Lib.hid h
  have HV := Lib.hid (encV_small (l := l) (by rw [← h.len]; exact hn))
  clear h
  by_cases hE : encE l = 0
  · have HE := Lib.hid hE
    have HR := Lib.hid (show recordB l = putV (encV l) from if_pos hE)
    clear hE
    go_enter Try.func21, Try.ntmps21
    go_wp2_with (first
      | (go_at_call 56; (with_reducible refine (refencode_any A n c l w H.out (by omega)).mono ?_); rintro e w1 ⟨v1, rfl, own1, bel1⟩; rw [HE.out]; obtain ⟨A1, c1, rfl, l1, m1, sl1⟩ := own1.isSlB; have SL1 := Lib.hid sl1; have B1 := Lib.hid bel1; clear own1 bel1 sl1)
      | (go_at_call 57; (with_reducible refine (refput_any A1 (encV l).length c1 (encV l) w1 SL1.out l1 m1).mono ?_); rintro e w2 ⟨v2, rfl, own2, bel2⟩; obtain ⟨A2, c2, rfl, l2, m2, sl2⟩ := own2.isSlB; have SL2 := Lib.hid sl2; have B2 := Lib.hid (bel_n B1.out bel2); clear own2 bel2 sl2)
      | fail)
    go_ret
    rw [HR.out]
    exact ⟨_, _, rfl, SL2.out, l2, m2, B2.out⟩
  · have hE1 : encE l = 1 := by unfold encE at hE ⊢; split at hE <;> simp_all
    have HE := Lib.hid hE1
    have HR := Lib.hid (show recordB l = [] from if_neg hE)
    clear hE hE1
    go_enter Try.func21, Try.ntmps21
    go_wp2_with (first
      | (go_at_call 56; (with_reducible refine (refencode_any A n c l w H.out (by omega)).mono ?_); rintro e w1 ⟨v1, rfl, own1, bel1⟩; rw [HE.out]; obtain ⟨A1, c1, rfl, l1, m1, sl1⟩ := own1.isSlB; have B1 := Lib.hid bel1; clear own1 bel1 sl1)
      | fail)
    go_ret
    rw [HR.out]
    exact ⟨_, _, rfl, IsSl.nil, Nat.le_refl _, Nat.zero_le _, B1.out⟩

theorem from_small (b : List UInt8) : I64 (fromV b).1 ∧ (fromV b).2.length ≤ 8 ∧ ∀ l ∈ (fromV b).2, l.length ≤ 1000 := by
  rcases from_may b with h | h
  · have p := mayImg_parts h
    exact ⟨by unfold I64; omega, p.2.2.2.1, fun l hl => (mayRows_parts (p.2.2.2.2 l hl)).1⟩
  · rw [h]; exact ⟨by unfold I64 img0; dsimp only; omega, by simp [img0], by simp [img0]⟩
theorem from_two (b : List UInt8) : (fromE b = 0 ∧ imgV (fromV b) = b ∧ imgE (fromV b) = 0) ∨ fromE b = 3 := by
  by_cases h : fromE b = 0
  · exact .inl ⟨h, (img_again h).2.1, (img_again h).2.2⟩
  · right; unfold fromE at h ⊢; split at h <;> simp_all

/-- The texts that are read, at place p of the list of them. -/
theorem three_in {W : World} {g n c m d q f p : Nat} {A A2 A3 : Option Addr} {b b2 b3 : List UInt8} (hp : p < 3) (h : Blk W g [.slice A n c, .slice A2 m d, .slice A3 q f]) (s : IsSl byteRep W (· < W.heap.size) A n b) (s1 : n ≤ c) (s2 : c ≤ maxLen) (s3 : n ≤ 140737488351232) (r : IsSl byteRep W (· < W.heap.size) A2 m b2) (r1 : m ≤ d) (r2 : d ≤ maxLen) (r3 : m ≤ 140737488351232) (t : IsSl byteRep W (· < W.heap.size) A3 q b3) (t1 : q ≤ f) (t2 : f ≤ maxLen) (t3 : q ≤ 140737488351232) :
    ∃ Ai ni ci bi, W.cell? ⟨g, p, none⟩ = some (.slice Ai ni ci) ∧ IsSl byteRep W (· < W.heap.size) Ai ni bi ∧ ni ≤ ci ∧ ci ≤ maxLen ∧ ni ≤ 140737488351232 := by
  obtain ⟨c0, c1, c2, _⟩ := h.c3
  rcases (show p = 0 ∨ p = 1 ∨ p = 2 by omega) with rfl | rfl | rfl
  · exact ⟨_, _, _, _, c0, s, s1, s2, s3⟩
  · exact ⟨_, _, _, _, c1, r, r1, r2, r3⟩
  · exact ⟨_, _, _, _, c2, t, t1, t2, t3⟩

set_option maxHeartbeats 16000000 in
theorem imageReads_walk (w : World) (A : Option Addr) (n c : Nat) (b : List UInt8) (h : IsSl byteRep w (· < w.heap.size) A n b) (h1 : n ≤ c) (h2 : c ≤ maxLen) (hz : c * 1 ≤ 140737488351232) (A' : Option Addr) (n' c' : Nat) (l : List Fld) (h' : IsSl fldRep w (· < w.heap.size) A' n' l) (h1' : n' ≤ c') (h2' : c' ≤ maxLen) (hz' : c' * 32 ≤ 140737488351232) (lsn : Int) (hlsn : I64 lsn) :
    Calls Try.prog 5 #[.slice A n c, .slice A' n' c', .int .i64 lsn] w fun e w' => e = .returned (.bool true) ∧ Below w.heap.size w w' := by
  obtain ⟨i0, hi, hz0, hz1, hz2⟩ := info_parts info_byte
  obtain ⟨j0, ji, jz0, jz1, jz2⟩ := info_parts info_fld
  have H := Lib.hid h
  have H' := Lib.hid h'
  have HL' := Lib.hid h'.len
  clear h h'
  by_cases hbig : 300 < n'
  · go_enter Try.func5, Try.ntmps5
    go_wp2_with (first
      | (go_at_call 12; (with_reducible refine (awake10 _).mono ?_); rintro e w1 ⟨rfl, hb1⟩)
      | fail)
    go_ret
    exact ⟨rfl, hb1⟩
  · have hn : n' ≤ 300 := by omega
    clear hbig
    obtain ⟨k, hk⟩ : ∃ k, k = modOf lsn 99 := ⟨_, rfl⟩
    have hkr := modOf_range lsn 99 (by omega)
    rw [← hk] at hkr
    have HK := Lib.hid hk
    have HWF := Lib.hid (show ∀ y ∈ [numF k, numF 1], y.wf by
      intro y hy
      simp only [List.mem_cons, List.not_mem_nil, or_false] at hy
      rcases hy with rfl | rfl
      · exact numF_wf (by unfold I64; omega)
      · exact numF_wf (by unfold I64; omega))
    have HR1 := Lib.hid (recordB_len l)
    have HR2 := Lib.hid (recordB_len ([numF k, numF 1] ++ l))
    clear hk
    go_enter Try.func5, Try.ntmps5
    go_wp2_with (first
      | (go_at_call 21; (with_reducible refine (record10_any A' n' c' l w H'.out (by omega)).mono ?_); rintro e w1 ⟨A1, c1, rfl, sl1, l1, m1, bel1⟩; obtain ⟨n1, hn1⟩ : ∃ n1, n1 = (recordB l).length := ⟨_, rfl⟩; have HR1 := Lib.hid (show n1 ≤ 1048584 by rw [hn1]; exact HR1.out); rw [← hn1] at sl1 l1 ⊢; have SL1 := Lib.hid sl1; have B1 := Lib.hid bel1; clear sl1 bel1 hn1)
      | (go_at_call 17; (with_reducible refine (big_any lsn 99 _ (by omega) (by omega)).mono ?_); rintro e w' ⟨rfl, rfl⟩; rw [← HK.out])
      | (go_at_call 22; (with_reducible refine (num_any k w1).mono ?_); rintro e w2 ⟨rfl, bel2⟩; have B2 := Lib.hid (bel_n B1.out bel2); have SL2 := Lib.hid (SL1.out.af bel2); clear bel2)
      | (go_at_call 22; (with_reducible refine (num_any 1 w2).mono ?_); rintro e w3 ⟨rfl, bel3⟩; have B3 := Lib.hid (bel_n B2.out bel3); have SL3 := Lib.hid (SL2.out.af bel3); have OV := Lib.hid (Own.litF (w := w3) (base := w.heap.size) (t := 41) [numF k, numF 1] HWF.out (cs := #[.int .i64 1, .int .i64 k, .string ByteArray.empty, .int .i64 1, .int .i64 1, .string ByteArray.empty]) rfl (n := 2) rfl B3.out.size (by simp [maxLen])); have BV := Lib.hid (B3.out.alloc B3.out.size (.cells #[.int .i64 1, .int .i64 k, .string ByteArray.empty, .int .i64 1, .int .i64 1, .string ByteArray.empty] 41)); have GV := Lib.hid ((Below.refl w3.heap.size w3).alloc (Nat.le_refl _) (.cells #[.int .i64 1, .int .i64 k, .string ByteArray.empty, .int .i64 1, .int .i64 1, .string ByteArray.empty] 41)); clear bel3)
      | (at_builtin; refine wpList_append_Own _ rfl _ _ 38 rfl w.heap.size 41 j0 _ 32 Try.underlying38 ji jz0 jz1 jz2 rfl (R := fldRep) (S := fun _ => False) (l := [numF k, numF 1]) (l' := l) (.slice (some ⟨w3.heap.size, 0, none⟩) 2 2) rfl OV.out A' n' c' rfl (H'.out.srcF flat_fld BV.out) (by simp [maxLen]; omega) (by simp; omega) (by omega) BV.out.size ?_; intro v4 w4 own4 gr4 at4; have bel4 := BV.out.grown gr4 BV.out.size (fun g hg => OV.out.row_ge hg); have fr4 := GV.out.grown gr4 (by simp) (fun g hg => by have := hg; simp [rowOf] at this; omega); have SL4 := Lib.hid (SL3.out.af fr4); have B4 := Lib.hid bel4; obtain ⟨A4, c4, rfl, l4, m4, sl4⟩ := own4.isSlB; have hln : ([numF k, numF 1] ++ l).length = n' + 2 := (by rw [List.length_append, ← HL'.out]; exact Nat.add_comm 2 n'); rw [hln] at sl4 l4 ⊢; have S4 := Lib.hid sl4; clear own4 gr4 at4 bel4 fr4 sl4 hln)
      | (go_at_call 21; (with_reducible refine (record10_any A4 (n' + 2) c4 ([numF k, numF 1] ++ l) w4 S4.out (by omega)).mono ?_); rintro e w5 ⟨A5, c5, rfl, sl5, l5, m5, bel5⟩; obtain ⟨n5, hn5⟩ : ∃ n5, n5 = (recordB ([numF k, numF 1] ++ l)).length := ⟨_, rfl⟩; have HR5 := Lib.hid (show n5 ≤ 1048584 by rw [hn5]; exact HR2.out); rw [← hn5] at sl5 l5 ⊢; have SL5 := Lib.hid (SL4.out.af bel5); have S5 := Lib.hid sl5; have B5 := Lib.hid (bel_n B4.out bel5); clear sl5 bel5 hn5)
      | fail)
    have hr1 := HR1.out
    have hr5 := HR5.out
    obtain ⟨W, hW⟩ : ∃ W, W = w5.alloc (.cells #[.slice A n c, .slice A1 n1 c1, .slice A5 n5 c5] 25) := ⟨_, rfl⟩
    have hWb : Below w5.heap.size w5 W := by rw [hW]; exact (Below.refl _ _).alloc (Nat.le_refl _) _
    have BK := Lib.hid (show Blk W w5.heap.size [.slice A n c, .slice A1 n1 c1, .slice A5 n5 c5] by rw [hW]; exact Blk.new rfl rfl)
    have BW := Lib.hid (bel_n B5.out hWb)
    have S1 := Lib.hid (H.out.af BW.out)
    have S2 := Lib.hid (SL5.out.af hWb)
    have S3 := Lib.hid (S5.out.af hWb)
    rw [← hW]
    clear hW hWb
    go_loopw [8] (fun i wr => ∃ p : Nat, i = .int .i64 p ∧ p ≤ 3 ∧ Below W.heap.size W wr) (fun i _ => 3 - (intOf i).toNat)
    case atStart => exact ⟨0, rfl, by omega, Below.refl _ _⟩
    case round =>
      obtain ⟨p, rfl, hp2, hbel⟩ := hrel
      by_cases hp : p < 3
      · have hd : decide ((p : Int) < 3) = true := decide_eq_true (by omega)
        have hd2 : (p : Int) < 3 := by omega
        obtain ⟨Ai, ni, ci, bi, kc, si, x1, x2, x3⟩ := three_in hp BK.out S1.out h1 h2 (by omega) S2.out l1 m1 (by omega) S3.out l5 m5 (by omega)
        have hsz := hbel.size
        have hgl : w5.heap.size < wr.heap.size := Nat.lt_of_lt_of_le BK.out.lt hsz
        have k0 := (hbel.cell (p := ⟨w5.heap.size, p, none⟩) BK.out.lt).trans kc
        have K00 := Lib.hid k0
        have SI := Lib.hid (si.af hbel)
        have HLI := Lib.hid si.len
        have hb0 : Below wr.heap.size wr (wr.alloc (.cells #[] 5)) := (Below.refl _ _).alloc (Nat.le_refl _) _
        have FS := Lib.hid (from_small bi)
        obtain ⟨X, hX⟩ : ∃ X, X = fromV bi := ⟨_, rfl⟩
        have HX := Lib.hid hX
        clear kc si
        rcases from_two bi with ⟨fe, fa, fb⟩ | fe
        · have FE := Lib.hid fe
          have FA := Lib.hid fa
          have FB := Lib.hid fb
          rw [← hX] at FA FB FS
          clear fe fa fb hX
          go_wp2_with (first
            | (at_builtin; refine wpList_append_Own _ rfl _ _ 25 rfl wr.heap.size 5 i0 _ 1 Try.underlying25 hi hz0 hz1 hz2 rfl (R := byteRep) (S := fun _ => False) (l := []) (l' := bi) (.slice (some ⟨wr.heap.size, 0, none⟩) 0 0) rfl (Own.nil _ _ _ (fun _ h => h.elim) _ _) Ai ni ci rfl (SI.out.srcF flat_byte hb0) (by simp [maxLen]; omega) (by simp; omega) (by omega) (by simp) ?_; intro v6 w6 own6 gr6 at6; have bel6 := hb0.grown gr6 (by simp) (by intro k hk; simp [rowOf] at hk); simp only [List.nil_append] at own6; obtain ⟨A6, c6, rfl, l6, m6, sl6⟩ := own6.isSlB; rw [← HLI.out] at l6 sl6 ⊢; have SL6 := Lib.hid sl6; have B6 := Lib.hid bel6; clear gr6 at6 own6 sl6 bel6)
            | (go_at_call 18; (with_reducible refine (imgDecode_any A6 ni c6 bi _ SL6.out l6 m6).mono ?_); rintro e w7 ⟨A7, n7, c7, rfl, s7, l7, m7, bel7⟩; rw [FE.out, ← HX.out]; rw [← HX.out] at s7; have HS7 := Lib.hid s7.len; have S7 := Lib.hid s7; have B7 := Lib.hid (bel_n B6.out bel7); have k0 := (B7.out.cell (p := ⟨w5.heap.size, p, none⟩) hgl).trans K00.out; have SI7 := Lib.hid (SI.out.af B7.out); clear s7 bel7)
            | (go_at_call 23; (with_reducible refine (refFromImage_any Ai ni ci bi _ SI7.out x1 x2).mono ?_); rintro e w8 ⟨A8, n8, c8, rfl, s8, l8, m8, bel8⟩; rw [FE.out, ← HX.out]; rw [← HX.out] at s8; have S8 := Lib.hid s8; have T8 := Lib.hid (S7.out.af bel8); have B8 := Lib.hid (bel_n B7.out bel8); have k0 := (B8.out.cell (p := ⟨w5.heap.size, p, none⟩) hgl).trans K00.out; have SI8 := Lib.hid (SI.out.af B8.out); clear s8 bel8)
            | (go_at_call 20; (with_reducible refine (tables_any A7 A8 n7 n8 c7 c8 X.2 w8 T8.out S8.out (by rw [HS7.out]; have := FS.out.2.1; omega) (fun l hl => by have := FS.out.2.2 l hl; omega)).mono ?_); rintro e w9 ⟨rfl, bel9⟩; have T9 := Lib.hid (T8.out.af bel9); have B9 := Lib.hid (bel_n B8.out bel9); clear bel9)
            | (go_at_call 13; (with_reducible refine (imgEncode_any X.1 FS.out.1 A7 n7 c7 X.2 w9 T9.out).mono ?_); rintro e w10 ⟨v10, rfl, own10, bel10⟩; rw [FB.out]; rw [FA.out] at own10; obtain ⟨A10, c10, rfl, l10, m10, sl10⟩ := own10.isSlB; have SL10 := Lib.hid sl10; have B10 := Lib.hid (bel_n B9.out bel10); have k0 := (B10.out.cell (p := ⟨w5.heap.size, p, none⟩) hgl).trans K00.out; have SI10 := Lib.hid (SI.out.af B10.out); clear own10 sl10 bel10)
            | (go_at_call 15; (with_reducible refine (bytes_any _ _ _ _ _ _ bi _ _ _ SL10.out SI10.out).mono ?_); rintro e w11 ⟨rfl, rfl⟩)
            | fail)
          go_roundw
          case rel => exact ⟨p + 1, by go_num, by omega, hbel.trans (B10.out.mono hsz)⟩
          case measure => simp [intOf]; omega
        · have FE := Lib.hid fe
          rw [← hX] at FS
          clear fe hX
          go_wp2_with (first
            | (at_builtin; refine wpList_append_Own _ rfl _ _ 25 rfl wr.heap.size 5 i0 _ 1 Try.underlying25 hi hz0 hz1 hz2 rfl (R := byteRep) (S := fun _ => False) (l := []) (l' := bi) (.slice (some ⟨wr.heap.size, 0, none⟩) 0 0) rfl (Own.nil _ _ _ (fun _ h => h.elim) _ _) Ai ni ci rfl (SI.out.srcF flat_byte hb0) (by simp [maxLen]; omega) (by simp; omega) (by omega) (by simp) ?_; intro v6 w6 own6 gr6 at6; have bel6 := hb0.grown gr6 (by simp) (by intro k hk; simp [rowOf] at hk); simp only [List.nil_append] at own6; obtain ⟨A6, c6, rfl, l6, m6, sl6⟩ := own6.isSlB; rw [← HLI.out] at l6 sl6 ⊢; have SL6 := Lib.hid sl6; have B6 := Lib.hid bel6; clear gr6 at6 own6 sl6 bel6)
            | (go_at_call 18; (with_reducible refine (imgDecode_any A6 ni c6 bi _ SL6.out l6 m6).mono ?_); rintro e w7 ⟨A7, n7, c7, rfl, s7, l7, m7, bel7⟩; rw [FE.out, ← HX.out]; rw [← HX.out] at s7; have HS7 := Lib.hid s7.len; have S7 := Lib.hid s7; have B7 := Lib.hid (bel_n B6.out bel7); have k0 := (B7.out.cell (p := ⟨w5.heap.size, p, none⟩) hgl).trans K00.out; have SI7 := Lib.hid (SI.out.af B7.out); clear s7 bel7)
            | (go_at_call 23; (with_reducible refine (refFromImage_any Ai ni ci bi _ SI7.out x1 x2).mono ?_); rintro e w8 ⟨A8, n8, c8, rfl, s8, l8, m8, bel8⟩; rw [FE.out, ← HX.out]; rw [← HX.out] at s8; have S8 := Lib.hid s8; have T8 := Lib.hid (S7.out.af bel8); have B8 := Lib.hid (bel_n B7.out bel8); clear s8 bel8)
            | (go_at_call 20; (with_reducible refine (tables_any A7 A8 n7 n8 c7 c8 X.2 w8 T8.out S8.out (by rw [HS7.out]; have := FS.out.2.1; omega) (fun l hl => by have := FS.out.2.2 l hl; omega)).mono ?_); rintro e w9 ⟨rfl, bel9⟩; have T9 := Lib.hid (T8.out.af bel9); have B9 := Lib.hid (bel_n B8.out bel9); clear bel9)
            | (go_at_call 13; (with_reducible refine (imgEncode_any X.1 FS.out.1 A7 n7 c7 X.2 w9 T9.out).mono ?_); rintro e w10 ⟨v10, rfl, own10, bel10⟩; obtain ⟨A10, c10, rfl⟩ := own10.form; have B10 := Lib.hid (bel_n B9.out bel10); clear own10 bel10)
            | fail)
          go_roundw
          case rel => exact ⟨p + 1, by go_num, by omega, hbel.trans (B10.out.mono hsz)⟩
          case measure => simp [intOf]; omega
      · have hd : decide ((p : Int) < 3) = false := decide_eq_false (by omega)
        go_wp2_with (first
          | (go_at_call 12; (with_reducible refine (awake10 _).mono ?_); rintro e w1 ⟨rfl, hb1⟩)
          | fail)
        go_ret
        exact ⟨rfl, BW.out.trans ((hbel.trans (hb1.mono hbel.size)).mono BW.out.size)⟩
end Go.Proofs.Ythhpddiicnjmmaa
