/- The statements' helper right; the walk of the law FieldBack. -/
import Derived.Test.YtfpmpihojjegbaaFldB
import Derived.Test.YtfpmpihojjegbaaFldP
namespace Go.Proofs.Ytfpmpihojjegbaa
open Go.RowKit

/-- A field that is right, of any one. -/
def rightOne (f : Fld) : Fld := if modOf f.kind 2 = 0 then ⟨1, f.n, ByteArray.empty⟩ else ⟨2, 0, f.s.extract 0 (min f.s.size 4096)⟩

def rightL (l : List Fld) : List Fld := (l.take 60).map rightOne

theorem rightOne_ok (f : Fld) : okField (rightOne f) = true := by
  unfold rightOne
  split
  · rfl
  · unfold okField
    simp
    omega

theorem rightOne_wf {f : Fld} (h : f.wf) : (rightOne f).wf := by
  unfold rightOne
  split
  · exact ⟨by unfold I64; dsimp only; omega, h.2.1, by show 0 ≤ _; omega⟩
  · refine ⟨by unfold I64; dsimp only; omega, by unfold I64; dsimp only; omega, ?_⟩
    unfold maxLen
    simp
    omega

theorem rightL_ok (l : List Fld) : (rightL l).all okField = true := by
  unfold rightL
  rw [List.all_map, List.all_eq_true]
  intro f _
  exact rightOne_ok f

theorem rightL_len (l : List Fld) : (rightL l).length ≤ 60 := by
  unfold rightL; rw [List.length_map, List.length_take]; omega

theorem rightL_snoc {l : List Fld} {k : Nat} {x : Fld} (h : l[k]? = some x) (_ : k < 60) : (l.take (k + 1)).map rightOne = (l.take k).map rightOne ++ [rightOne x] := by
  rw [take_snoc h, List.map_append]; rfl

theorem rightL_all {l : List Fld} {w : World} {S : Nat → Prop} {A : Option Addr} {n : Nat} (h : IsSl fldRep w S A n l) : ∀ f ∈ rightL l, f.wf := by
  intro f hf
  unfold rightL at hf
  obtain ⟨g, hg, rfl⟩ := List.mem_map.1 hf
  refine rightOne_wf ?_
  obtain ⟨k, hk, rfl⟩ := List.mem_iff_getElem.1 (List.mem_of_mem_take hg)
  obtain ⟨_, _, x, _, _, _, hx, ⟨_, hw⟩, _⟩ := h.at_ (k := k) (by rw [h.len]; exact hk)
  rw [List.getElem?_eq_getElem hk] at hx
  rw [Option.some.inj hx]
  exact hw

set_option maxHeartbeats 2000000 in
theorem lawright_any (A : Option Addr) (n c : Nat) (l : List Fld) (w : World) (h : IsSl fldRep w (· < w.heap.size) A n l) :
    Calls Try.prog 23 #[.slice A n c] w fun e w' => ∃ v, e = .returned v ∧ Own fldRep w' w.heap.size (fun _ => False) 26 v (rightL l) ∧ Below w.heap.size w w' := by
  obtain ⟨i0, hi, hz0, hz1, hz2⟩ := info_parts info_fld
  have H := Lib.hid h
  have HL := Lib.hid h.len
  clear h
  go_enter Try.func23, Try.ntmps23
  go_wp2_with fail
  go_loopw [3, 4] (fun v i wr => ∃ p : Nat, i = .int .i64 p ∧ p ≤ n ∧ p ≤ 60 ∧ Own fldRep wr w.heap.size (fun _ => False) 26 v ((l.take p).map rightOne) ∧ Below w.heap.size w wr) (fun _ i _ => 60 - (intOf i).toNat)
  case atStart => exact ⟨0, rfl, Nat.zero_le _, Nat.zero_le _, by simpa using Own.nil (R := fldRep) w w.heap.size (fun _ => False) (fun _ h => h.elim) _ none, Below.refl _ _⟩
  case round =>
    obtain ⟨p, rfl, hpn, hp60, hown, hbel⟩ := hrel
    have HO := Lib.hid hown
    have hsz := hbel.size
    obtain ⟨B, hB⟩ : ∃ B, B = (l.take p).map rightOne := ⟨_, rfl⟩
    rw [← hB] at HO
    have hBl : B.length ≤ 60 := by rw [hB, List.length_map, List.length_take]; omega
    have HB := Lib.hid hB
    clear hown hB
    by_cases hlt : p < n ∧ p < 60
    · obtain ⟨h1, h2⟩ := hlt
      obtain ⟨b0, off, x, rfl, hbS, hx, hwf, c0, c1, c2⟩ := H.out.fld h1 (fun p hp => hbel.cell hp)
      have HSN := Lib.hid (rightL_snoc hx h2)
      have hm := modOf_range x.kind 2 (by omega)
      have HRW := Lib.hid (rightOne_wf hwf)
      have hxs : x.s.size ≤ maxLen := hwf.2.2
      clear hx hwf
      by_cases hk : modOf x.kind 2 = 0
      · have HR := Lib.hid (show rightOne x = ⟨1, x.n, ByteArray.empty⟩ by unfold rightOne; rw [if_pos hk])
        have HK := Lib.hid hk
        clear hk
        go_wp2_with (first
          | (go_at_call 24; (with_reducible refine (mod_any x.kind 2 _ (by omega) (by omega)).mono ?_); rintro e w' ⟨rfl, rfl⟩; rw [HK.out])
          | (go_at_call 25; (with_reducible refine (num_any x.n _).mono ?_); rintro e w3 ⟨rfl, bel3⟩; have OW3 := Lib.hid (HO.out.below bel3); have bw3 : Below w.heap.size w w3 := hbel.trans (bel3.mono hsz); have hs3 := bw3.size; clear bel3)
          | (at_builtin; refine wpList_append_Own _ rfl _ _ 22 rfl w.heap.size 26 i0 _ 32 Try.underlying22 hi hz0 hz1 hz2 rfl (R := fldRep) (S := fun _ => False) (l := B) (l' := [⟨1, x.n, ByteArray.empty⟩]) u3 rfl (OW3.out.alloc _) _ 1 1 rfl ?_ (by simp only [maxLen]; omega) (by omega) (by omega) (by simp; omega) ?_; exact Src.new ⟨rfl, by rw [← HR.out]; exact HRW.out⟩; intro v5 w5 own5 gr5 at5; have bw5 := (bw3.alloc (by omega) _).grown gr5 (by simp; omega) (fun g hg => OW3.out.row_ge hg); have OW5 := Lib.hid own5; clear own5 gr5 at5)
          | fail)
        go_roundw
        case rel => exact ⟨p + 1, by go_num, by omega, by omega, by rw [HSN.out, HR.out, ← HB.out]; exact OW5.out, bw5⟩
        case measure => simp [intOf]; omega
      · have hk1 : (modOf x.kind 2 == 0) = false := by simpa using hk
        have HR := Lib.hid (show rightOne x = ⟨2, 0, x.s.extract 0 (min x.s.size 4096)⟩ by unfold rightOne; rw [if_neg hk])
        clear hk
        go_wp2_with (first
          | (go_at_call 24; (with_reducible refine (mod_any x.kind 2 _ (by omega) (by omega)).mono ?_); rintro e w' ⟨rfl, rfl⟩)
          | (go_at_call 46; (with_reducible refine (cut_any x.s 4096 4096 rfl _ hxs).mono ?_); rintro e w' ⟨rfl, rfl⟩)
          | (go_at_call 26; (with_reducible refine (text_any _ _).mono ?_); rintro e w3 ⟨rfl, bel3⟩; have OW3 := Lib.hid (HO.out.below bel3); have bw3 : Below w.heap.size w w3 := hbel.trans (bel3.mono hsz); have hs3 := bw3.size; clear bel3)
          | (at_builtin; refine wpList_append_Own _ rfl _ _ 22 rfl w.heap.size 26 i0 _ 32 Try.underlying22 hi hz0 hz1 hz2 rfl (R := fldRep) (S := fun _ => False) (l := B) (l' := [⟨2, 0, x.s.extract 0 (min x.s.size 4096)⟩]) u3 rfl (OW3.out.alloc _) _ 1 1 rfl ?_ (by simp only [maxLen]; omega) (by omega) (by omega) (by simp; omega) ?_; exact Src.new ⟨rfl, by rw [← HR.out]; exact HRW.out⟩; intro v5 w5 own5 gr5 at5; have bw5 := (bw3.alloc (by omega) _).grown gr5 (by simp; omega) (fun g hg => OW3.out.row_ge hg); have OW5 := Lib.hid own5; clear own5 gr5 at5)
          | fail)
        go_roundw
        case rel => exact ⟨p + 1, by go_num, by omega, by omega, by rw [HSN.out, HR.out, ← HB.out]; exact OW5.out, bw5⟩
        case measure => simp [intOf]; omega
    · have hend : n ≤ p ∨ (p < n ∧ p = 60) := by omega
      have HE := Lib.hid (show B = rightL l by
        rw [HB.out]; unfold rightL
        rcases hend with h | ⟨_, h⟩
        · rw [List.take_of_length_le (by rw [← HL.out]; exact h), List.take_of_length_le (by rw [← HL.out]; omega)]
        · rw [h])
      clear hlt
      rcases hend with h | ⟨h0, rfl⟩
      all_goals
        go_wp2
        all_goals
          go_ret
          exact ⟨_, rfl, by rw [← HE.out]; exact HO.out, hbel⟩

theorem encV_ok {l : List Fld} (h : l.length ≤ 60) (ha : l.all okField = true) : encV l = encB l ∧ encE l = 0 := by
  unfold encV encE
  rw [encO_eq (by omega) ha]
  exact ⟨rfl, rfl⟩

theorem encB_len {l : List Fld} (h : l.length ≤ 60) (ha : l.all okField = true) : 2 ≤ (encB l).length ∧ (encB l).length ≤ 300000 := by
  unfold encB
  rw [List.length_append, bigB_len]
  have := encL_len ha
  omega

theorem decV_of {b : List UInt8} {l : List Fld} (h : decO b = .ok l) : decV b = l ∧ decE b = 0 := by unfold decV decE; rw [h]; exact ⟨rfl, rfl⟩
theorem decE_of {b : List UInt8} {e : Int} (h : decO b = .error e) : decE b = e := by unfold decE; rw [h]

set_option maxRecDepth 100000 in
set_option maxHeartbeats 4000000 in
theorem fieldBack_walk (w : World) (A : Option Addr) (n c : Nat) (l : List Fld) (h : IsSl fldRep w (· < w.heap.size) A n l) (_ : n ≤ c) (_ : c ≤ maxLen) (cut : Int) (_ : I64 cut) (m : Int) (hm : (Lit.int .u8 m).wf = true) :
    Calls Try.prog 5 #[.slice A n c, .int .i64 cut, .int .u8 m] w fun e w' => e = .returned (.bool true) ∧ Below w.heap.size w w' := by
  obtain ⟨i0, hi, hz0, hz1, hz2⟩ := info_parts info_byte
  obtain ⟨mb, rfl⟩ : ∃ mb : UInt8, m = (mb.toNat : Int) := by
    simp [Lit.wf, IntKind.min, IntKind.max, IntKind.bits, IntKind.signed] at hm
    refine ⟨UInt8.ofNat m.toNat, ?_⟩
    rw [UInt8.toNat_ofNat']
    omega
  have H := Lib.hid h
  have hrl := rightL_len l
  have hra := rightL_ok l
  have hrw := rightL_all h
  obtain ⟨X, hX⟩ : ∃ X, X = rightL l := ⟨_, rfl⟩
  rw [← hX] at hrl hra hrw
  have HX := Lib.hid hX
  obtain ⟨B, hB⟩ : ∃ B, B = encB X := ⟨_, rfl⟩
  obtain ⟨hb2, hb3⟩ := encB_len hrl hra
  have hd0 := decO_enc (by omega) hra hrw []
  rw [if_pos rfl, List.append_nil] at hd0
  have hd1 := decO_enc (by omega) hra hrw [mb]
  rw [if_neg (by simp)] at hd1
  have hcm := modOf_range cut ((encB X).length : Int) (by omega)
  obtain ⟨q, hq⟩ := Int.eq_ofNat_of_zero_le hcm.1
  have hq2 : q < (encB X).length := by omega
  have hd2 := decO_cut (by omega) hra hrw hq2
  rw [← hB] at hb2 hb3 hd0 hd1 hd2 hq hq2
  obtain ⟨N, hN⟩ : ∃ N, N = B.length := ⟨_, rfl⟩
  rw [← hN] at hb2 hb3 hq hq2
  have HN := Lib.hid hN
  have HN1 := Lib.hid (show (B ++ [mb]).length = N + 1 by rw [List.length_append, hN]; rfl)
  have HV := Lib.hid (encV_ok hrl hra)
  rw [← hB] at HV
  have HD0 := Lib.hid (decV_of hd0)
  have HD1 := Lib.hid (decE_of hd1)
  have HD2 := Lib.hid (decE_of hd2)
  have HQ := Lib.hid hq
  clear h hm hX hB hd0 hd1 hd2 hcm hq hrw hra hN
  go_enter Try.func5, Try.ntmps5
  go_wp2_with (first
    | (go_at_call 23; (with_reducible refine (lawright_any A n c l _ H.out).mono ?_); rintro e w2 ⟨v2, rfl, own2, bel2⟩; rw [← HX.out] at own2; obtain ⟨A2, c2, rfl, _, _, sl2⟩ := own2.isSlB; have SL2 := Lib.hid sl2; have hs2 := bel2.size; clear own2 sl2)
    | (go_at_call 16; (with_reducible refine (encode_any _ X.length _ X _ SL2.out (by omega)).mono ?_); rintro e w3 ⟨v3, rfl, own3, bel3⟩; rw [HV.out.2]; rw [HV.out.1] at own3; obtain ⟨A3, c3, rfl, hlc3, hcm3, sl3⟩ := own3.isSlB; rw [← HN.out] at hlc3 sl3 ⊢; have SLE := Lib.hid sl3; have hs3 := bel3.size; have SX3 := Lib.hid ((SL2.out.below bel3).more hs3); have bw3 : Below w.heap.size w w3 := bel2.trans (bel3.mono hs2); clear own3 sl3 bel3)
    | (go_at_call 14; (with_reducible refine (awake02_any _).mono ?_); rintro e w5 ⟨rfl, bel5⟩; have hs5 := bel5.size; have bw5 : Below w.heap.size w w5 := bw3.trans (bel5.mono (by omega)); have SLE5 := Lib.hid ((SLE.out.below bel5).more hs5); have SX5 := Lib.hid ((SX3.out.below bel5).more hs5); clear bel5)
    | (go_at_call 20; (with_reducible refine (decode_any A3 N c3 B _ SLE5.out hlc3 hcm3).mono ?_); rintro e w6 ⟨v6, rfl, own6, bel6⟩; rw [HD0.out.2]; rw [HD0.out.1] at own6; obtain ⟨A6, c6, rfl, _, _, sl6⟩ := own6.isSlB; have SL6 := Lib.hid sl6; have hs6 := bel6.size; have SLE6 := Lib.hid ((SLE5.out.below bel6).more hs6); have SX6 := Lib.hid ((SX5.out.below bel6).more hs6); have bw6 : Below w.heap.size w w6 := bw5.trans (bel6.mono (by omega)); have SLQ := Lib.hid (SLE6.out.cutTo (hi := q) (by omega)); clear own6 sl6 bel6)
    | (go_at_call 24; (with_reducible refine (mod_any cut (N : Int) _ (by omega) (by omega)).mono ?_); rintro e w' ⟨rfl, rfl⟩; rw [HQ.out])
    | (go_at_call 20; (with_reducible refine (decode_any A3 q c3 (B.take q) _ SLQ.out (by omega) hcm3).mono ?_); rintro e w7 ⟨v7, rfl, own7, bel7⟩; rw [HD2.out]; have hs7 := bel7.size; have SLE7 := Lib.hid ((SLE6.out.below bel7).more hs7); have SX7 := Lib.hid ((SX6.out.below bel7).more hs7); have SY7 := Lib.hid ((SL6.out.below bel7).more hs7); have bw7 : Below w.heap.size w w7 := bw6.trans (bel7.mono (by omega)); clear own7 bel7)
    | (at_builtin; refine wpList_append_Own _ rfl _ _ 27 rfl w7.heap.size 5 i0 _ 1 Try.underlying27 hi hz0 hz1 hz2 rfl (R := byteRep) (S := fun _ => False) (l := []) (l' := B) (.slice (some ⟨w7.heap.size, 0, none⟩) 0 0) rfl (Own.nil _ _ _ (fun _ h => h.elim) _ _) A3 N c3 rfl (SLE7.out.srcF flat_byte ((Below.refl _ _).alloc (Nat.le_refl _) _)) (by simp [maxLen]; omega) (by simp; omega) (by omega) (by simp) ?_; intro v8 w8 own8 gr8 at8; have bel8 := ((Below.refl w7.heap.size w7).alloc (Nat.le_refl _) _).grown gr8 (by simp) (by intro k hk; simp [rowOf] at hk); simp only [List.nil_append] at own8; have OW8 := Lib.hid own8; have hs8 := bel8.size; clear gr8 at8 own8)
    | (at_builtin; refine wpList_append_Own _ rfl _ _ 27 rfl w7.heap.size 5 i0 _ 1 Try.underlying27 hi hz0 hz1 hz2 rfl (R := byteRep) (S := fun _ => False) (l := B) (l' := [mb]) v8 rfl (OW8.out.alloc _) _ 1 1 rfl (Src.new ⟨rfl, trivial⟩) (by rw [← HN.out]; simp [maxLen]; omega) (by rw [← HN.out]; omega) (by omega) (by simp; omega) ?_; intro v9 w9 own9 gr9 at9; have bel9 := (bel8.alloc hs8 _).grown gr9 (by simp; omega) (fun g hg => OW8.out.row_ge hg); obtain ⟨A9, c9, rfl, hlc9, hcm9, sl9⟩ := own9.isSlB; rw [HN1.out] at hlc9 sl9 ⊢; have SL9 := Lib.hid sl9; have hs9 := bel9.size; have SX9 := Lib.hid ((SX7.out.below bel9).more hs9); have SY9 := Lib.hid ((SY7.out.below bel9).more hs9); have bw9 : Below w.heap.size w w9 := bw7.trans (bel9.mono (by omega)); clear gr9 at9 own9 sl9)
    | (go_at_call 20; (with_reducible refine (decode_any A9 (N + 1) c9 (B ++ [mb]) _ SL9.out hlc9 hcm9).mono ?_); rintro e w10 ⟨v10, rfl, own10, bel10⟩; rw [HD1.out]; have hs10 := bel10.size; have SX10 := Lib.hid ((SX9.out.below bel10).more hs10); have SY10 := Lib.hid ((SY9.out.below bel10).more hs10); have bw10 : Below w.heap.size w w10 := bw9.trans (bel10.mono (by omega)); clear own10 bel10)
    | (go_at_call 22; (with_reducible refine (plain_fld _ _ _ _ _ _ X _ SX10.out SY10.out (by omega)).mono ?_); rintro e w11 ⟨rfl, bel11⟩)
    | fail)
  go_ret
  exact ⟨rfl, bw10.trans (bel11.mono (by omega))⟩
end Go.Proofs.Ytfpmpihojjegbaa
