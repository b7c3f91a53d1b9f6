/- The walks of the laws FieldTurned and FieldLimits. -/
import Derived.Test.YtfpmpihojjegbaaFldC
import Derived.Test.YtfpmpihojjegbaaMake
namespace Go.Proofs.Ytfpmpihojjegbaa
open Go.RowKit

theorem u8_add (x y : UInt8) : ((x.toNat : Int) + (y.toNat : Int)) % 256 = ((x + y).toNat : Int) := by
  rw [UInt8.toNat_add]
  omega

theorem dec_cases (b : List UInt8) : (∃ e, e ≠ 0 ∧ decV b = [] ∧ decE b = e) ∨ (∃ l, decO b = .ok l ∧ decV b = l ∧ decE b = 0) := by
  unfold decV decE
  cases h : decO b with
  | ok l => exact .inr ⟨l, rfl, rfl, rfl⟩
  | error e =>
    left
    refine ⟨e, ?_, rfl, rfl⟩
    have hF : ∀ (b : List UInt8) (e : Int), decF b = .error e → e ≠ 0 := by
      intro b e h
      have := fieldF_dec b
      rw [h] at this
      exact this.1
    have hN : ∀ (k : Nat) (b : List UInt8) (acc : List Fld) (e : Int), decN k b acc = .error e → e ≠ 0 := by
      intro k
      induction k with
      | zero => intro b acc e h; rw [decN] at h; split at h <;> cases h; decide
      | succ k ih =>
        intro b acc e h
        rw [decN] at h
        split at h
        · rename_i e' he; cases h; exact hF _ _ he
        · exact ih _ _ _ h
    unfold decO at h
    split at h
    · cases h; decide
    · split at h
      · cases h; decide
      · exact hN _ _ _ _ h

set_option maxRecDepth 100000 in
set_option maxHeartbeats 4000000 in
theorem fieldTurned_walk (w : World) (A : Option Addr) (n c : Nat) (l : List Fld) (h : IsSl fldRep w (· < w.heap.size) A n l) (_ : n ≤ c) (_ : c ≤ maxLen) (at_ : Int) (_ : I64 at_) (m : Int) (hm : (Lit.int .u8 m).wf = true) :
    Calls Try.prog 6 #[.slice A n c, .int .i64 at_, .int .u8 m] w fun e w' => e = .returned (.bool true) ∧ Below w.heap.size w w' := by
  obtain ⟨mb, rfl⟩ : ∃ mb : UInt8, m = (mb.toNat : Int) := by
    simp [Lit.wf, IntKind.min, IntKind.max, IntKind.bits, IntKind.signed] at hm
    refine ⟨UInt8.ofNat m.toNat, ?_⟩
    rw [UInt8.toNat_ofNat']
    omega
  have H := Lib.hid h
  have hrl := rightL_len l
  have hra := rightL_ok l
  obtain ⟨X, hX⟩ : ∃ X, X = rightL l := ⟨_, rfl⟩
  rw [← hX] at hrl hra
  have HX := Lib.hid hX
  obtain ⟨B, hB⟩ : ∃ B, B = encB X := ⟨_, rfl⟩
  obtain ⟨hb2, hb3⟩ := encB_len hrl hra
  have hcm := modOf_range at_ ((encB X).length : Int) (by omega)
  obtain ⟨q, hq⟩ := Int.eq_ofNat_of_zero_le hcm.1
  have hq2 : q < (encB X).length := by omega
  rw [← hB] at hb2 hb3 hq hq2
  obtain ⟨N, hN⟩ : ∃ N, N = B.length := ⟨_, rfl⟩
  rw [← hN] at hb2 hb3 hq hq2
  have HN := Lib.hid hN
  have HV := Lib.hid (encV_ok hrl hra)
  rw [← hB] at HV
  have HQ := Lib.hid hq
  obtain ⟨x, hx⟩ : ∃ x, B[q]? = some x := ⟨_, List.getElem?_eq_getElem (by omega)⟩
  have HXQ := Lib.hid hx
  have hBne : B ≠ [] := by rintro rfl; simp at hx
  have HBN := Lib.hid hBne
  have hadd := u8_add x mb
  obtain ⟨C, hC⟩ : ∃ C, C = B.set q (x + mb) := ⟨_, rfl⟩
  have hCl : C.length = N := by rw [hC, List.length_set, hN]
  have HC := Lib.hid hC
  have HCL := Lib.hid hCl
  have HADD := Lib.hid hadd
  clear h hm hX hB hcm hq hra hN hx hBne hC hCl hadd
  have hdc := dec_cases C
  have HED : ∀ l', decO C = .ok l' → encV l' = C ∧ encE l' = 0 ∧ l'.length ≤ 32767 := by
    intro l' h
    obtain ⟨h1, h2, _⟩ := encO_dec h
    unfold encV encE
    rw [h1]
    exact ⟨rfl, rfl, h2⟩
  have HEDH := Lib.hid HED
  clear HED
  go_enter Try.func6, Try.ntmps6
  go_wp2_with (first
    | (go_at_call 23; (with_reducible refine (lawright_any A n c l _ H.out).mono ?_); rintro e w2 ⟨v2, rfl, own2, bel2⟩; rw [← HX.out] at own2; obtain ⟨A2, c2, rfl, _, _, sl2⟩ := own2.isSlB; have SL2 := Lib.hid sl2; have hs2 := bel2.size; clear own2 sl2)
    | (go_at_call 17; (with_reducible refine (refencode_any _ X.length _ X _ SL2.out (by omega)).mono ?_); rintro e w3 ⟨v3, rfl, own3, bel3⟩; rw [HV.out.2]; rw [HV.out.1] at own3; obtain ⟨g, cap, rfl, hgB, hgl, hcp1, hcp2⟩ := own3.form1 HBN.out; rw [← HN.out] at hcp1 own3 ⊢; have OW3 := Lib.hid (own3.mono hs2); obtain ⟨hcell, hfroz⟩ := own_byte own3 HXQ.out; have hs3 := bel3.size; have bw3 : Below w.heap.size w w3 := bel2.trans (bel3.mono hs2); have hgw : w.heap.size ≤ g := Nat.le_trans hs2 hgB; clear own3 bel3)
    | (go_at_call 24; (with_reducible refine (mod_any at_ (N : Int) _ (by omega) (by omega)).mono ?_); rintro e w' ⟨rfl, rfl⟩; rw [HQ.out])
    | fail)
  rw [HADD.out]
  obtain ⟨W, hW⟩ : ∃ W, W = w3.setCell ⟨g, q, none⟩ (.int .u8 ((x + mb).toNat : Int)) := ⟨_, rfl⟩
  have hown := own_byte_set (x + mb) OW3.out HXQ.out
  rw [← HC.out, ← hW] at hown
  have hbW : Below w.heap.size w W := by rw [hW]; exact bw3.setCell hgw _
  obtain ⟨AW, cW, hvW, _, _, slW⟩ := hown.isSlB
  rw [HCL.out] at hvW slW
  injection hvW with hAW _ hcW
  subst hAW hcW
  have SLW := Lib.hid slW
  have hsW := hbW.size
  rw [← hW]
  clear hW hown slW hcell hfroz bw3 hs3 hgl
  rcases hdc with ⟨e0, he0, hv0, he1⟩ | ⟨l', hl', hv0, he1⟩
  · have HV0 := Lib.hid hv0
    have HE1 := Lib.hid he1
    have hb0 : (e0 == 0) = false := by simpa using he0
    clear hv0 he1 he0
    go_wp2_with (first
      | (go_at_call 20; (with_reducible refine (decode_any _ N cap C _ SLW.out hcp1 hcp2).mono ?_); rintro e w4 ⟨v4, rfl, own4, bel4⟩; rw [HV0.out] at own4; rw [HE1.out]; obtain ⟨A4, c4, rfl, _, _, sl4⟩ := own4.isSlB; have SL4 := Lib.hid sl4; have hs4 := bel4.size; have SLC4 := Lib.hid ((SLW.out.below bel4).more hs4); have bw4 : Below w.heap.size w w4 := hbW.trans (bel4.mono hsW); clear own4 sl4 bel4)
      | (go_at_call 21; (with_reducible refine (refdecode_any _ N cap C _ SLC4.out hcp1 hcp2).mono ?_); rintro e w5 ⟨v5, rfl, own5, bel5⟩; rw [HV0.out] at own5; rw [HE1.out]; obtain ⟨A5, c5, rfl, _, _, sl5⟩ := own5.isSlB; have SL5 := Lib.hid sl5; have hs5 := bel5.size; have SD5 := Lib.hid ((SL4.out.below bel5).more hs5); have bw5 : Below w.heap.size w w5 := bw4.trans (bel5.mono (by omega)); clear own5 sl5 bel5)
      | (go_at_call 14; (with_reducible refine (awake02_any _).mono ?_); rintro e w6 ⟨rfl, bel6⟩; have hs6 := bel6.size; have bw6 : Below w.heap.size w w6 := bw5.trans (bel6.mono (by omega)); have SD6 := Lib.hid ((SD5.out.below bel6).more hs6); have SL6 := Lib.hid ((SL5.out.below bel6).more hs6); clear bel6)
      | (go_at_call 22; (refine (plain_fld _ _ 0 0 _ _ [] _ SD6.out SL6.out (by omega)).mono ?_); rintro e w7 ⟨rfl, bel7⟩)
      | fail)
    go_ret
    exact ⟨rfl, bw6.trans (bel7.mono (by omega))⟩
  · have HV0 := Lib.hid hv0
    have HE1 := Lib.hid he1
    have HENC := Lib.hid (HEDH.out l' hl')
    have hl32 : l'.length ≤ 32767 := (HEDH.out l' hl').2.2
    clear hv0 he1 hl'
    go_wp2_with (first
      | (go_at_call 20; (with_reducible refine (decode_any _ N cap C _ SLW.out hcp1 hcp2).mono ?_); rintro e w4 ⟨v4, rfl, own4, bel4⟩; rw [HV0.out] at own4; rw [HE1.out]; obtain ⟨A4, c4, rfl, _, _, sl4⟩ := own4.isSlB; have SL4 := Lib.hid sl4; have hs4 := bel4.size; have SLC4 := Lib.hid ((SLW.out.below bel4).more hs4); have bw4 : Below w.heap.size w w4 := hbW.trans (bel4.mono hsW); clear own4 sl4 bel4)
      | (go_at_call 21; (with_reducible refine (refdecode_any _ N cap C _ SLC4.out hcp1 hcp2).mono ?_); rintro e w5 ⟨v5, rfl, own5, bel5⟩; rw [HV0.out] at own5; rw [HE1.out]; obtain ⟨A5, c5, rfl, _, _, sl5⟩ := own5.isSlB; have SL5 := Lib.hid sl5; have hs5 := bel5.size; have SD5 := Lib.hid ((SL4.out.below bel5).more hs5); have SLC5 := Lib.hid ((SLC4.out.below bel5).more hs5); have bw5 : Below w.heap.size w w5 := bw4.trans (bel5.mono (by omega)); clear own5 sl5 bel5)
      | (go_at_call 14; (with_reducible refine (awake02_any _).mono ?_); rintro e w6 ⟨rfl, bel6⟩; have hs6 := bel6.size; have bw6 : Below w.heap.size w w6 := bw5.trans (bel6.mono (by omega)); have SD6 := Lib.hid ((SD5.out.below bel6).more hs6); have SL6 := Lib.hid ((SL5.out.below bel6).more hs6); have SLC6 := Lib.hid ((SLC5.out.below bel6).more hs6); clear bel6)
      | (go_at_call 22; (with_reducible refine (plain_fld _ _ _ _ _ _ l' _ SD6.out SL6.out (by omega)).mono ?_); rintro e w7 ⟨rfl, bel7⟩; have hs7 := bel7.size; have bw7 : Below w.heap.size w w7 := bw6.trans (bel7.mono (by omega)); have SD7 := Lib.hid ((SD6.out.below bel7).more hs7); have SLC7 := Lib.hid ((SLC6.out.below bel7).more hs7); clear bel7)
      | (go_at_call 16; (with_reducible refine (encode_any _ l'.length _ l' _ SD7.out (by omega)).mono ?_); rintro e w8 ⟨v8, rfl, own8, bel8⟩; rw [HENC.out.2.1]; rw [HENC.out.1] at own8; obtain ⟨A8, c8, rfl, _, _, sl8⟩ := own8.isSlB; have SL8 := Lib.hid sl8; have hs8 := bel8.size; have SLC8 := Lib.hid ((SLC7.out.below bel8).more hs8); have bw8 : Below w.heap.size w w8 := bw7.trans (bel8.mono (by omega)); clear own8 sl8 bel8)
      | (go_at_call 18; (with_reducible refine (bytes_any _ _ _ _ _ _ C _ _ _ SLC8.out SL8.out).mono ?_); rintro e w' ⟨rfl, rfl⟩)
      | fail)
    go_ret
    exact ⟨rfl, bw8⟩

/-! ### FieldLimits -/
def flds (k : Nat) : List Fld := List.replicate k ⟨1, 0, ByteArray.empty⟩

theorem flds_small {k : Nat} (h : k ≤ 32767) : encE (flds k) = 0 ∧ (encV (flds k)).length = 2 + 9 * k := by
  have ha : (flds k).all okField = true := by unfold flds; rw [List.all_replicate]; simp [okField]
  have hl : (flds k).length = k := by unfold flds; rw [List.length_replicate]
  unfold encE encV
  rw [encO_eq (by omega) ha]
  refine ⟨rfl, ?_⟩
  show (encB (flds k)).length = _
  unfold encB encL
  rw [List.length_append, bigB_len, List.length_flatMap, show (flds k).map (fun a => (encF a).length) = List.replicate k 9 by unfold flds; rw [List.map_replicate]; rfl]
  simp
  omega

theorem flds_big {k : Nat} (h : 32767 < k) : encE (flds k) = 1 ∧ encV (flds k) = [] := by
  have hl : (flds k).length = k := by unfold flds; rw [List.length_replicate]
  have h0 : encO (flds k) = none := by
    unfold encO
    rw [if_neg]
    rintro ⟨h1, _⟩
    omega
  unfold encE encV
  rw [h0]
  exact ⟨rfl, rfl⟩

theorem text_small {s : ByteArray} (h : s.size ≤ 4096) : encE [⟨2, 0, s⟩] = 0 ∧ (encV [⟨2, 0, s⟩]).length = 5 + s.size := by
  have ha : [(⟨2, 0, s⟩ : Fld)].all okField = true := by simp [okField, h]
  unfold encE encV
  rw [encO_eq (by simp) ha]
  refine ⟨rfl, ?_⟩
  show (encB _).length = _
  unfold encB encL
  have hsl : s.data.toList.length = s.size := by simp
  simp only [List.flatMap_cons, List.flatMap_nil, List.append_nil, List.length_append, bigB_len]
  rw [show encF ⟨2, 0, s⟩ = 2 :: (bigB s.size 2 ++ s.data.toList) from rfl]
  simp only [List.length_cons, List.length_append, bigB_len, hsl]
  omega

theorem text_big {s : ByteArray} (h : 4096 < s.size) : encE [⟨2, 0, s⟩] = 1 ∧ encV [⟨2, 0, s⟩] = [] := by
  have h0 : encO [⟨2, 0, s⟩] = none := by
    unfold encO
    rw [if_neg]
    rintro ⟨_, h2⟩
    simp [okField] at h2
    omega
  unfold encE encV
  rw [h0]
  exact ⟨rfl, rfl⟩

/-- A field's three cells where it is owned. -/
theorem own_fld {w : World} {base g n cap k : Nat} {S : Nat → Prop} {e : TypeId} {l : List Fld} {x : Fld} (h : Own fldRep w base S e (.slice (some ⟨g, 0, none⟩) n cap) l) (hx : l[k]? = some x) (j : Nat) (hj : j < 3) :
    w.cell? ⟨g, k * 3 + j, none⟩ = x.cells[j]? ∧ w.frozen? ⟨g, k * 3 + j, none⟩ = false := by
  obtain ⟨cs, u, ⟨rfl, _⟩, hu, hc, hf⟩ := h.cellAt hx (j := j) hj
  exact ⟨hc.trans hu.symm, hf⟩

theorem own_fld_set {w : World} {base g n cap k : Nat} {S : Nat → Prop} {e : TypeId} {l : List Fld} {x y : Fld} {j : Nat} {u : Value} (h : Own fldRep w base S e (.slice (some ⟨g, 0, none⟩) n cap) l) (hx : l[k]? = some x) (hj : j < 3) (hy : y.cells = x.cells.set j u) (hw : y.wf) :
    Own fldRep (w.setCell ⟨g, k * 3 + j, none⟩ u) base S e (.slice (some ⟨g, 0, none⟩) n cap) (l.set k y) :=
  Own.store (cs := x.cells) flat_fld h hx (by rintro cs ⟨rfl, _⟩; rfl) hj ⟨hy.symm, hw⟩

def upTo (k i : Nat) : List Fld := flds i ++ List.replicate (k - i) ⟨0, 0, ByteArray.empty⟩

theorem upTo_at {k i : Nat} (h : i < k) : (upTo k i)[i]? = some ⟨0, 0, ByteArray.empty⟩ := by
  unfold upTo flds
  rw [List.getElem?_append_right (by simp), List.length_replicate, Nat.sub_self, List.getElem?_replicate, if_pos (by omega)]

theorem upTo_set {k i : Nat} (h : i < k) : (upTo k i).set i ⟨1, 0, ByteArray.empty⟩ = upTo k (i + 1) := by
  unfold upTo flds
  obtain ⟨d, hd⟩ : ∃ d, k - i = d + 1 := ⟨k - i - 1, by omega⟩
  rw [List.set_append_right _ _ (by simp), List.length_replicate, Nat.sub_self, hd, show k - (i + 1) = d by omega, List.replicate_succ, List.set_cons_zero, List.replicate_succ', List.append_assoc]
  rfl

theorem upTo_len {k i : Nat} (h : i ≤ k) : (upTo k i).length = k := by
  unfold upTo flds; simp; omega

theorem fld_wf0 : (⟨0, 0, ByteArray.empty⟩ : Fld).wf := ⟨by unfold I64; dsimp only; omega, by unfold I64; dsimp only; omega, by show 0 ≤ _; omega⟩
theorem fld_wf1 : (⟨1, 0, ByteArray.empty⟩ : Fld).wf := ⟨by unfold I64; dsimp only; omega, by unfold I64; dsimp only; omega, by show 0 ≤ _; omega⟩

theorem numB_two (k : Nat) (h : k < 65536) : numB [UInt8.ofNat (k / 256), UInt8.ofNat k] = k := by
  simp [numB, UInt8.toNat_ofNat']
  omega

theorem dec_two {k : Nat} (h1 : 1 ≤ k) (h : k ≤ 40000) : decE [UInt8.ofNat (k / 256), UInt8.ofNat k] = if k ≤ 32767 then 2 else 3 := by
  unfold decE decO
  rw [if_neg (by simp), show [UInt8.ofNat (k / 256), UInt8.ofNat k].take 2 = [UInt8.ofNat (k / 256), UInt8.ofNat k] from rfl, numB_two k (by omega)]
  obtain ⟨d, rfl⟩ : ∃ d, k = d + 1 := ⟨k - 1, by omega⟩
  by_cases hk : d + 1 ≤ 32767
  · rw [if_neg (by omega), if_pos hk]; rfl
  · rw [if_pos (by omega), if_neg hk]

theorem dec_five {m : Nat} (h1 : 1 ≤ m) (h : m ≤ 40000) : decE [0, 1, 2, UInt8.ofNat (m / 256), UInt8.ofNat m] = if m ≤ 4096 then 2 else 3 := by
  unfold decE decO
  rw [if_neg (by simp), show numB ([0, 1, 2, UInt8.ofNat (m / 256), UInt8.ofNat m].take 2) = 1 from rfl, if_neg (by omega)]
  show (match decN 1 [2, UInt8.ofNat (m / 256), UInt8.ofNat m] [] with | .ok _ => (0 : Int) | .error e => e) = _
  rw [decN, decF, if_neg (by decide), if_pos rfl, if_neg (by simp), show [UInt8.ofNat (m / 256), UInt8.ofNat m].take 2 = [UInt8.ofNat (m / 256), UInt8.ofNat m] from rfl, numB_two m (by omega)]
  by_cases hm : m ≤ 4096
  · rw [if_neg (by omega), if_pos (by simp; omega), if_pos hm]
  · rw [if_pos (by omega), if_neg hm]

theorem byte_hi (k : Nat) : (k : Int) / 256 % 256 = ((UInt8.ofNat (k / 256)).toNat : Int) := by rw [UInt8.toNat_ofNat']; omega
theorem byte_hi' (k : Nat) (h : k < 65536) : ((UInt8.ofNat (k / 256)).toNat : Int) = (k : Int) / 256 := by rw [UInt8.toNat_ofNat']; omega
theorem byte_lo (k : Nat) : (k : Int) % 256 = ((UInt8.ofNat k).toNat : Int) := by rw [UInt8.toNat_ofNat']; omega

theorem two_bytes (k : Nat) (h : k < 65536) : (#[.int .u8 ((k : Int) / 256), .int .u8 ((k : Int) % 256)] : Array Value) = (byteVals [UInt8.ofNat (k / 256), UInt8.ofNat k]).toArray := by
  rw [← byte_hi' k h, byte_lo]; rfl
theorem five_bytes (k : Nat) (h : k < 65536) : (#[.int .u8 0, .int .u8 1, .int .u8 2, .int .u8 ((k : Int) / 256), .int .u8 ((k : Int) % 256)] : Array Value) = (byteVals [0, 1, 2, UInt8.ofNat (k / 256), UInt8.ofNat k]).toArray := by
  rw [← byte_hi' k h, byte_lo]; rfl

set_option maxRecDepth 100000 in
set_option maxHeartbeats 3000000 in
theorem fieldLimits_walk (w : World) (n : Int) (_ : I64 n) (size : Int) (_ : I64 size) :
    Calls Try.prog 7 #[.int .i64 n, .int .i64 size] w fun e w' => e = .returned (.bool true) ∧ Below w.heap.size w w' := by
  have hk := modOf_range n 3 (by omega)
  have hm := modOf_range size 3 (by omega)
  obtain ⟨kn, hkn⟩ := Int.eq_ofNat_of_zero_le hk.1
  obtain ⟨mn, hmn⟩ := Int.eq_ofNat_of_zero_le hm.1
  rw [hkn] at hk
  rw [hmn] at hm
  have HK := Lib.hid hkn
  have HM := Lib.hid hmn
  have hk3 : kn < 3 := by omega
  have hm3 : mn < 3 := by omega
  obtain ⟨k, hkk⟩ : ∃ k : Nat, k = 32766 + kn := ⟨_, rfl⟩
  obtain ⟨m, hmm⟩ : ∃ m : Nat, m = 4095 + mn := ⟨_, rfl⟩
  have hki : (32766 : Int) + (kn : Int) = (k : Int) := by omega
  have hmi : (4095 : Int) + (mn : Int) = (m : Int) := by omega
  obtain ⟨i0, hi, hz0, hz1, hz2⟩ := info_parts info_byte
  obtain ⟨i1, hi1, hy0, hy1, hy2⟩ := info_parts info_fld
  have hmk := fun W : World => run_make_own (P := Try.prog) 22 26 i1 _ 3 32 Try.underlying22 hi1 hy0 hy1 hy2 .i64 .i64 k _ hki (by omega) (by omega) W
  have hmb := fun W : World => run_make_own (P := Try.prog) 27 5 i0 _ 1 1 Try.underlying27 hi hz0 hz1 hz2 .i64 .i64 m _ hmi (by omega) (by omega) W
  have HKI := Lib.hid hki
  have HMI := Lib.hid hmi
  have hk1 : 32766 ≤ k := by omega
  have hk2 : k ≤ 32768 := by omega
  have hm1 : 4095 ≤ m := by omega
  have hm2 : m ≤ 4097 := by omega
  clear hkn hmn hk hm hki hmi hkk hmm
  go_enter Try.func7, Try.ntmps7
  go_wp2_with (first
    | (go_at_call 24; (with_reducible refine (mod_any n 3 _ (by omega) (by omega)).mono ?_); rintro e w' ⟨rfl, rfl⟩; rw [HK.out])
    | fail)
  rw [HKI.out]
  obtain ⟨W1, hW1⟩ : ∃ W1, W1 = w.alloc (.cells (madeCells #[.int .i64 0, .int .i64 0, .string ByteArray.empty] (k * 3)) 26) := ⟨_, rfl⟩
  have own0 : Own fldRep W1 w.heap.size (fun _ => False) 26 (.slice (some ⟨w.heap.size, 0, none⟩) k k) (upTo k 0) := by
    rw [hW1]
    exact Own.made (R := fldRep) w (.agg #[.int .i64 0, .int .i64 0, .string ByteArray.empty]) ⟨0, 0, ByteArray.empty⟩ k _ rfl (fun _ _ => ⟨rfl, fld_wf0⟩) (by unfold maxLen; omega)
  have bel0 : Below w.heap.size w W1 := by rw [hW1]; exact (Below.refl _ _).alloc (Nat.le_refl _) _
  rw [← hW1]
  clear hW1 hmk
  go_loopw [7] (fun i wr => ∃ j : Nat, i = .int .i64 j ∧ j ≤ k ∧ Own fldRep wr w.heap.size (fun _ => False) 26 (.slice (some ⟨w.heap.size, 0, none⟩) k k) (upTo k j) ∧ Below w.heap.size w wr) (fun i _ => k - (intOf i).toNat)
  case atStart => exact ⟨0, rfl, Nat.zero_le _, own0, bel0⟩
  case round =>
    obtain ⟨j, rfl, hj, hown, hbel⟩ := hrel
    have HO := Lib.hid hown
    have hsz := hbel.size
    have hgl : w.heap.size < wr.heap.size := hown.row_lt (by cases k with | zero => omega | succ _ => rfl)
    clear hown own0 bel0
    by_cases hlt : j < k
    · go_wp2_with (first
        | (go_at_call 25; (with_reducible refine (num_any 0 _).mono ?_); rintro e w3 ⟨rfl, bel3⟩; have OW3 := Lib.hid (HO.out.below bel3); have bw3 : Below w.heap.size w w3 := hbel.trans (bel3.mono hsz); have f0 : w3.cell? ⟨w.heap.size, j * 3, none⟩ = some (.int .i64 0) := (own_fld OW3.out (upTo_at hlt) 0 (by omega)).1; have f1 : w3.cell? ⟨w.heap.size, j * 3 + 1, none⟩ = some (.int .i64 0) := (own_fld OW3.out (upTo_at hlt) 1 (by omega)).1; have f2 : w3.cell? ⟨w.heap.size, j * 3 + 2, none⟩ = some (.string ByteArray.empty) := (own_fld OW3.out (upTo_at hlt) 2 (by omega)).1; have z0 : w3.frozen? ⟨w.heap.size, j * 3, none⟩ = false := (own_fld OW3.out (upTo_at hlt) 0 (by omega)).2; have z1 := (own_fld OW3.out (upTo_at hlt) 1 (by omega)).2; have z2 := (own_fld OW3.out (upTo_at hlt) 2 (by omega)).2; clear bel3)
        | fail)
      go_roundw
      case rel =>
        have o1 := own_fld_set (j := 0) (y := ⟨1, 0, ByteArray.empty⟩) (u := .int .i64 1) OW3.out (upTo_at hlt) (by omega) rfl fld_wf1
        have e1 : (( upTo k j).set j ⟨1, 0, ByteArray.empty⟩)[j]? = some ⟨1, 0, ByteArray.empty⟩ := List.getElem?_set_self (by rw [upTo_len hj]; exact hlt)
        have o2 := own_fld_set (j := 1) (y := ⟨1, 0, ByteArray.empty⟩) (u := .int .i64 0) o1 e1 (by omega) rfl fld_wf1
        rw [List.set_set] at o2
        have o3 := own_fld_set (j := 2) (y := ⟨1, 0, ByteArray.empty⟩) (u := .string ByteArray.empty) o2 e1 (by omega) rfl fld_wf1
        rw [List.set_set, upTo_set hlt] at o3
        exact ⟨j + 1, by go_num, by omega, o3, ((bw3.setCell (Nat.le_refl _) _).setCell (Nat.le_refl _) _).setCell (Nat.le_refl _) _⟩
      case measure => simp [intOf]; omega
    · obtain rfl : j = k := by omega
      have hfl : upTo j j = flds j := by unfold upTo; rw [Nat.sub_self]; simp
      rw [hfl] at HO
      obtain ⟨AL, cL, hvL, _, _, slL⟩ := HO.out.isSlB
      have hlen : (flds j).length = j := by unfold flds; simp
      rw [hlen] at hvL slL
      injection hvL with hAL _ hcL
      subst hAL hcL
      have SLL := Lib.hid slL
      clear slL hfl hlt hlen hj
      have hmr : (List.replicate m (0 : UInt8)).toArray.size = m := by simp
      obtain ⟨s, hs⟩ : ∃ s : ByteArray, s = ⟨(List.replicate m (0 : UInt8)).toArray⟩ := ⟨_, rfl⟩
      have hss : s.size = m := by rw [hs]; exact hmr
      have HSS := Lib.hid hss
      have HS := Lib.hid hs
      have hswf : (⟨2, 0, s⟩ : Fld).wf := ⟨by unfold I64; dsimp only; omega, by unfold I64; dsimp only; omega, by show s.size ≤ _; rw [hss]; unfold maxLen; omega⟩
      have HDK := Lib.hid (dec_two (k := j) (by omega) (by omega))
      have HDM := Lib.hid (dec_five (m := m) (by omega) (by omega))
      clear hs hss hmr
      have hcv : ∀ W : World, (convert 27 9 (.slice (some ⟨W.heap.size, 0, none⟩) m m)).run Try.prog (W.alloc (.cells (madeCells #[.int .u8 0] m) 5)) = .ok (.string s) (W.alloc (.cells (madeCells #[.int .u8 0] m) 5)) := by
        intro W
        have ho := Own.made (R := byteRep) W (.int .u8 0) 0 m 5 rfl (fun _ _ => ⟨rfl, trivial⟩) (by unfold maxLen; omega)
        rw [show m * byteRep.size = m from Nat.mul_one m] at ho
        obtain ⟨_, _, hv, _, _, sl⟩ := ho.isSlB
        rw [List.length_replicate] at hv sl
        injection hv with hv1 _ _
        rw [← hv1] at sl
        rw [HS.out]
        exact run_str_of (c := m) 27 9 5 Try.underlying27 Try.underlying5 Try.underlying9 sl
      have hkc : j ≤ 32767 ∨ 32767 < j := by omega
      have hmc : m ≤ 4096 ∨ 4096 < m := by omega
      rcases hkc with hkc | hkc <;> rcases hmc with hmc | hmc
      · have HEK := Lib.hid (show encE (flds j) = 0 ∧ (encV (flds j)).length = 2 + 9 * j from flds_small hkc)
        have HEM := Lib.hid (show encE [⟨2, 0, s⟩] = 0 ∧ (encV [⟨2, 0, s⟩]).length = 5 + m from by have := text_small (s := s) (by rw [HSS.out]; exact hmc); rw [HSS.out] at this; exact this)
        rw [if_pos hkc] at HDK
        rw [if_pos hmc] at HDM
        have q1 : decide (32767 < (j : Int)) = false := by simp; omega
        have q2 : decide ((j : Int) ≤ 32767) = true := by simp; omega
        have q3 : decide (4096 < (m : Int)) = false := by simp; omega
        go_wp2_with (first
          | (go_at_call 16; (with_reducible refine (encode_any _ j j (flds j) _ SLL.out (by omega)).mono ?_); rintro e w4 ⟨v4, rfl, own4, bel4⟩; rw [HEK.out.1]; obtain ⟨A4, c4, rfl, _, _, _⟩ := own4.isSlB; rw [HEK.out.2]; have bw4 : Below w.heap.size w w4 := hbel.trans (bel4.mono hsz); have hs4 := bw4.size; clear own4 bel4)
          | (go_at_call 24; (with_reducible refine (mod_any size 3 _ (by omega) (by omega)).mono ?_); rintro e w' ⟨rfl, rfl⟩; rw [HM.out])
          | (go_at_call 26; (with_reducible refine (text_any s _).mono ?_); rintro e w5 ⟨rfl, bel5⟩; rw [HMI.out]; have bw5 : Below w.heap.size w w5 := (bw4.alloc hs4 _).trans (bel5.mono (by simp; omega)); have hs5 := bw5.size; clear bel5)
          | (go_at_call 16; (refine (encode_any _ 1 1 [⟨2, 0, s⟩] _ (IsSl.new1 (R := fldRep) ⟨rfl, hswf⟩ (by simp)) (by omega)).mono ?_); rintro e w6 ⟨v6, rfl, own6, bel6⟩; rw [HEM.out.1]; obtain ⟨A6, c6, rfl, _, _, _⟩ := own6.isSlB; rw [HEM.out.2]; have bw6 : Below w.heap.size w w6 := (bw5.alloc hs5 _).trans (bel6.mono (by simp; omega)); have hs6 := bw6.size; clear own6 bel6)
          | (go_at_call 20; have K7 := decode_any _ 5 5 [0, 1, 2, UInt8.ofNat (m / 256), UInt8.ofNat m] (w6.alloc (.cells #[.int .u8 0, .int .u8 1, .int .u8 2, .int .u8 ((m : Int) / 256), .int .u8 ((m : Int) % 256)] 5)) (IsSl.newBytes _ (five_bytes m (by omega)) rfl (by simp)) (by omega) (by unfold maxLen; omega); (with_reducible refine K7.mono ?_); clear K7; rintro e w7 ⟨v7, rfl, own7, bel7⟩; rw [HDM.out]; have bw7 : Below w.heap.size w w7 := (bw6.alloc hs6 _).trans (bel7.mono (by simp; omega)); have hs7 := bw7.size; clear own7 bel7)
          | (go_at_call 20; have K8 := decode_any _ 2 2 [UInt8.ofNat (j / 256), UInt8.ofNat j] (w7.alloc (.cells #[.int .u8 ((j : Int) / 256), .int .u8 ((j : Int) % 256)] 5)) (IsSl.newBytes _ (two_bytes j (by omega)) rfl (by simp)) (by omega) (by unfold maxLen; omega); (with_reducible refine K8.mono ?_); clear K8; rintro e w8 ⟨v8, rfl, own8, bel8⟩; rw [HDK.out]; have bw8 : Below w.heap.size w w8 := (bw7.alloc hs7 _).trans (bel8.mono (by simp; omega)); have hs8 := bw8.size; clear own8 bel8)
          | (go_at_call 14; (with_reducible refine (awake02_any _).mono ?_); rintro e w9 ⟨rfl, bel9⟩)
          | fail)
        go_ret
        exact ⟨rfl, bw8.trans (bel9.mono hs8)⟩
      · have HEK := Lib.hid (show encE (flds j) = 0 ∧ (encV (flds j)).length = 2 + 9 * j from flds_small hkc)
        have HEM := Lib.hid (show encE [⟨2, 0, s⟩] = 1 ∧ (encV [⟨2, 0, s⟩]).length = 0 from ⟨(text_big (by rw [HSS.out]; exact hmc)).1, by rw [(text_big (by rw [HSS.out]; exact hmc)).2]; rfl⟩)
        rw [if_pos hkc] at HDK
        rw [if_neg (by omega)] at HDM
        have q1 : decide (32767 < (j : Int)) = false := by simp; omega
        have q2 : decide ((j : Int) ≤ 32767) = true := by simp; omega
        have q3 : decide (4096 < (m : Int)) = true := by simp; omega
        go_wp2_with (first
          | (go_at_call 16; (with_reducible refine (encode_any _ j j (flds j) _ SLL.out (by omega)).mono ?_); rintro e w4 ⟨v4, rfl, own4, bel4⟩; rw [HEK.out.1]; obtain ⟨A4, c4, rfl, _, _, _⟩ := own4.isSlB; rw [HEK.out.2]; have bw4 : Below w.heap.size w w4 := hbel.trans (bel4.mono hsz); have hs4 := bw4.size; clear own4 bel4)
          | (go_at_call 24; (with_reducible refine (mod_any size 3 _ (by omega) (by omega)).mono ?_); rintro e w' ⟨rfl, rfl⟩; rw [HM.out])
          | (go_at_call 26; (with_reducible refine (text_any s _).mono ?_); rintro e w5 ⟨rfl, bel5⟩; rw [HMI.out]; have bw5 : Below w.heap.size w w5 := (bw4.alloc hs4 _).trans (bel5.mono (by simp; omega)); have hs5 := bw5.size; clear bel5)
          | (go_at_call 16; (refine (encode_any _ 1 1 [⟨2, 0, s⟩] _ (IsSl.new1 (R := fldRep) ⟨rfl, hswf⟩ (by simp)) (by omega)).mono ?_); rintro e w6 ⟨v6, rfl, own6, bel6⟩; rw [HEM.out.1]; obtain ⟨A6, c6, rfl, _, _, _⟩ := own6.isSlB; rw [HEM.out.2]; have bw6 : Below w.heap.size w w6 := (bw5.alloc hs5 _).trans (bel6.mono (by simp; omega)); have hs6 := bw6.size; clear own6 bel6)
          | (go_at_call 20; have K7 := decode_any _ 5 5 [0, 1, 2, UInt8.ofNat (m / 256), UInt8.ofNat m] (w6.alloc (.cells #[.int .u8 0, .int .u8 1, .int .u8 2, .int .u8 ((m : Int) / 256), .int .u8 ((m : Int) % 256)] 5)) (IsSl.newBytes _ (five_bytes m (by omega)) rfl (by simp)) (by omega) (by unfold maxLen; omega); (with_reducible refine K7.mono ?_); clear K7; rintro e w7 ⟨v7, rfl, own7, bel7⟩; rw [HDM.out]; have bw7 : Below w.heap.size w w7 := (bw6.alloc hs6 _).trans (bel7.mono (by simp; omega)); have hs7 := bw7.size; clear own7 bel7)
          | (go_at_call 20; have K8 := decode_any _ 2 2 [UInt8.ofNat (j / 256), UInt8.ofNat j] (w7.alloc (.cells #[.int .u8 ((j : Int) / 256), .int .u8 ((j : Int) % 256)] 5)) (IsSl.newBytes _ (two_bytes j (by omega)) rfl (by simp)) (by omega) (by unfold maxLen; omega); (with_reducible refine K8.mono ?_); clear K8; rintro e w8 ⟨v8, rfl, own8, bel8⟩; rw [HDK.out]; have bw8 : Below w.heap.size w w8 := (bw7.alloc hs7 _).trans (bel8.mono (by simp; omega)); have hs8 := bw8.size; clear own8 bel8)
          | (go_at_call 14; (with_reducible refine (awake02_any _).mono ?_); rintro e w9 ⟨rfl, bel9⟩)
          | fail)
        go_ret
        exact ⟨rfl, bw8.trans (bel9.mono hs8)⟩
      · have HEK := Lib.hid (show encE (flds j) = 1 ∧ (encV (flds j)).length = 0 from ⟨(flds_big hkc).1, by rw [(flds_big hkc).2]; rfl⟩)
        have HEM := Lib.hid (show encE [⟨2, 0, s⟩] = 0 ∧ (encV [⟨2, 0, s⟩]).length = 5 + m from by have := text_small (s := s) (by rw [HSS.out]; exact hmc); rw [HSS.out] at this; exact this)
        rw [if_neg (by omega)] at HDK
        rw [if_pos hmc] at HDM
        have q1 : decide (32767 < (j : Int)) = true := by simp; omega
        have q2 : decide ((j : Int) ≤ 32767) = false := by simp; omega
        have q3 : decide (4096 < (m : Int)) = false := by simp; omega
        go_wp2_with (first
          | (go_at_call 16; (with_reducible refine (encode_any _ j j (flds j) _ SLL.out (by omega)).mono ?_); rintro e w4 ⟨v4, rfl, own4, bel4⟩; rw [HEK.out.1]; obtain ⟨A4, c4, rfl, _, _, _⟩ := own4.isSlB; rw [HEK.out.2]; have bw4 : Below w.heap.size w w4 := hbel.trans (bel4.mono hsz); have hs4 := bw4.size; clear own4 bel4)
          | (go_at_call 24; (with_reducible refine (mod_any size 3 _ (by omega) (by omega)).mono ?_); rintro e w' ⟨rfl, rfl⟩; rw [HM.out])
          | (go_at_call 26; (with_reducible refine (text_any s _).mono ?_); rintro e w5 ⟨rfl, bel5⟩; rw [HMI.out]; have bw5 : Below w.heap.size w w5 := (bw4.alloc hs4 _).trans (bel5.mono (by simp; omega)); have hs5 := bw5.size; clear bel5)
          | (go_at_call 16; (refine (encode_any _ 1 1 [⟨2, 0, s⟩] _ (IsSl.new1 (R := fldRep) ⟨rfl, hswf⟩ (by simp)) (by omega)).mono ?_); rintro e w6 ⟨v6, rfl, own6, bel6⟩; rw [HEM.out.1]; obtain ⟨A6, c6, rfl, _, _, _⟩ := own6.isSlB; rw [HEM.out.2]; have bw6 : Below w.heap.size w w6 := (bw5.alloc hs5 _).trans (bel6.mono (by simp; omega)); have hs6 := bw6.size; clear own6 bel6)
          | (go_at_call 20; have K7 := decode_any _ 5 5 [0, 1, 2, UInt8.ofNat (m / 256), UInt8.ofNat m] (w6.alloc (.cells #[.int .u8 0, .int .u8 1, .int .u8 2, .int .u8 ((m : Int) / 256), .int .u8 ((m : Int) % 256)] 5)) (IsSl.newBytes _ (five_bytes m (by omega)) rfl (by simp)) (by omega) (by unfold maxLen; omega); (with_reducible refine K7.mono ?_); clear K7; rintro e w7 ⟨v7, rfl, own7, bel7⟩; rw [HDM.out]; have bw7 : Below w.heap.size w w7 := (bw6.alloc hs6 _).trans (bel7.mono (by simp; omega)); have hs7 := bw7.size; clear own7 bel7)
          | (go_at_call 20; have K8 := decode_any _ 2 2 [UInt8.ofNat (j / 256), UInt8.ofNat j] (w7.alloc (.cells #[.int .u8 ((j : Int) / 256), .int .u8 ((j : Int) % 256)] 5)) (IsSl.newBytes _ (two_bytes j (by omega)) rfl (by simp)) (by omega) (by unfold maxLen; omega); (with_reducible refine K8.mono ?_); clear K8; rintro e w8 ⟨v8, rfl, own8, bel8⟩; rw [HDK.out]; have bw8 : Below w.heap.size w w8 := (bw7.alloc hs7 _).trans (bel8.mono (by simp; omega)); have hs8 := bw8.size; clear own8 bel8)
          | (go_at_call 14; (with_reducible refine (awake02_any _).mono ?_); rintro e w9 ⟨rfl, bel9⟩)
          | fail)
        go_ret
        exact ⟨rfl, bw8.trans (bel9.mono hs8)⟩
      · have HEK := Lib.hid (show encE (flds j) = 1 ∧ (encV (flds j)).length = 0 from ⟨(flds_big hkc).1, by rw [(flds_big hkc).2]; rfl⟩)
        have HEM := Lib.hid (show encE [⟨2, 0, s⟩] = 1 ∧ (encV [⟨2, 0, s⟩]).length = 0 from ⟨(text_big (by rw [HSS.out]; exact hmc)).1, by rw [(text_big (by rw [HSS.out]; exact hmc)).2]; rfl⟩)
        rw [if_neg (by omega)] at HDK
        rw [if_neg (by omega)] at HDM
        have q1 : decide (32767 < (j : Int)) = true := by simp; omega
        have q2 : decide ((j : Int) ≤ 32767) = false := by simp; omega
        have q3 : decide (4096 < (m : Int)) = true := by simp; omega
        go_wp2_with (first
          | (go_at_call 16; (with_reducible refine (encode_any _ j j (flds j) _ SLL.out (by omega)).mono ?_); rintro e w4 ⟨v4, rfl, own4, bel4⟩; rw [HEK.out.1]; obtain ⟨A4, c4, rfl, _, _, _⟩ := own4.isSlB; rw [HEK.out.2]; have bw4 : Below w.heap.size w w4 := hbel.trans (bel4.mono hsz); have hs4 := bw4.size; clear own4 bel4)
          | (go_at_call 24; (with_reducible refine (mod_any size 3 _ (by omega) (by omega)).mono ?_); rintro e w' ⟨rfl, rfl⟩; rw [HM.out])
          | (go_at_call 26; (with_reducible refine (text_any s _).mono ?_); rintro e w5 ⟨rfl, bel5⟩; rw [HMI.out]; have bw5 : Below w.heap.size w w5 := (bw4.alloc hs4 _).trans (bel5.mono (by simp; omega)); have hs5 := bw5.size; clear bel5)
          | (go_at_call 16; (refine (encode_any _ 1 1 [⟨2, 0, s⟩] _ (IsSl.new1 (R := fldRep) ⟨rfl, hswf⟩ (by simp)) (by omega)).mono ?_); rintro e w6 ⟨v6, rfl, own6, bel6⟩; rw [HEM.out.1]; obtain ⟨A6, c6, rfl, _, _, _⟩ := own6.isSlB; rw [HEM.out.2]; have bw6 : Below w.heap.size w w6 := (bw5.alloc hs5 _).trans (bel6.mono (by simp; omega)); have hs6 := bw6.size; clear own6 bel6)
          | (go_at_call 20; have K7 := decode_any _ 5 5 [0, 1, 2, UInt8.ofNat (m / 256), UInt8.ofNat m] (w6.alloc (.cells #[.int .u8 0, .int .u8 1, .int .u8 2, .int .u8 ((m : Int) / 256), .int .u8 ((m : Int) % 256)] 5)) (IsSl.newBytes _ (five_bytes m (by omega)) rfl (by simp)) (by omega) (by unfold maxLen; omega); (with_reducible refine K7.mono ?_); clear K7; rintro e w7 ⟨v7, rfl, own7, bel7⟩; rw [HDM.out]; have bw7 : Below w.heap.size w w7 := (bw6.alloc hs6 _).trans (bel7.mono (by simp; omega)); have hs7 := bw7.size; clear own7 bel7)
          | (go_at_call 20; have K8 := decode_any _ 2 2 [UInt8.ofNat (j / 256), UInt8.ofNat j] (w7.alloc (.cells #[.int .u8 ((j : Int) / 256), .int .u8 ((j : Int) % 256)] 5)) (IsSl.newBytes _ (two_bytes j (by omega)) rfl (by simp)) (by omega) (by unfold maxLen; omega); (with_reducible refine K8.mono ?_); clear K8; rintro e w8 ⟨v8, rfl, own8, bel8⟩; rw [HDK.out]; have bw8 : Below w.heap.size w w8 := (bw7.alloc hs7 _).trans (bel8.mono (by simp; omega)); have hs8 := bw8.size; clear own8 bel8)
          | (go_at_call 14; (with_reducible refine (awake02_any _).mono ?_); rintro e w9 ⟨rfl, bel9⟩)
          | fail)
        go_ret
        exact ⟨rfl, bw8.trans (bel9.mono hs8)⟩
end Go.Proofs.Ytfpmpihojjegbaa
