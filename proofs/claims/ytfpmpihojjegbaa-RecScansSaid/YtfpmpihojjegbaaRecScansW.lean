/- The walk of RecScans. -/
import Derived.Test.YtfpmpihojjegbaaRecReadsW
set_option linter.unusedVariables false
namespace Go.Proofs.Ytfpmpihojjegbaa
open Go.RowKit

theorem info_int1 : (Try.prog.info? 3).map (fun i => (i.zero, i.size, i.bytes)) = some (some (.int .i64 0), 1, 8) := by kernel_rfl

/-- How long the records are, up to each. -/
def endsL (l : List (List UInt8)) (k : Nat) : List Int := (List.range k).map fun j => ((catL (l.take (j + 1))).length : Int)

theorem endsL_len (l : List (List UInt8)) (k : Nat) : (endsL l k).length = k := by simp [endsL]
theorem endsL_succ (l : List (List UInt8)) (k : Nat) : endsL l (k + 1) = endsL l k ++ [((catL (l.take (k + 1))).length : Int)] := by simp [endsL, List.range_succ]
theorem endsL_at (l : List (List UInt8)) (k j : Nat) (h : j < k) : (endsL l k)[j]? = some ((catL (l.take (j + 1))).length : Int) := by simp [endsL, h]

theorem catL_succ {l : List (List UInt8)} {k : Nat} {x : List UInt8} (h : l[k]? = some x) : catL (l.take (k + 1)) = catL (l.take k) ++ putB x := by
  rw [List.take_add_one, h, catL_append]
  simp [catL]

theorem catL_le (l : List (List UInt8)) (h : ∀ x ∈ l, x.length ≤ 5000) : (catL l).length ≤ l.length * 5008 := by
  induction l with
  | nil => simp [catL]
  | cons x r ih =>
    have h1 := ih fun y hy => h y (by simp [hy])
    have h2 := h x (by simp)
    rw [catL_cons, List.length_append, putB_len, List.length_cons]
    omega

theorem int_at {w w' : World} {S : Nat → Prop} {A : Option Addr} {n k : Nat} {l : List Int} (h : IsSl intRep w S A n l) (hk : k < n) (hkp : ∀ p : Addr, S p.block → w'.cell? p = w.cell? p) :
    ∃ b off x, A = some ⟨b, off, none⟩ ∧ S b ∧ l[k]? = some x ∧ w'.cell? ⟨b, off + k, none⟩ = some (.int .i64 x) := by
  obtain ⟨b, off, x, cs, hA, hbS, hx, ⟨rfl, _⟩, hc⟩ := h.at_ hk
  refine ⟨b, off, x, hA, hbS, hx, (hkp _ hbS).trans ?_⟩
  have e := hc 0 _ rfl
  rw [show off + k * intRep.size + 0 = off + k by show off + k * 1 + 0 = _; omega] at e
  exact e

theorem int_at2 {w w' : World} {S : Nat → Prop} {A : Option Addr} {n k : Nat} {l : List Int} (h : IsSl intRep w S A n l) (hk : k + 1 < n) (hkp : ∀ p : Addr, S p.block → w'.cell? p = w.cell? p) :
    ∃ b off x y, A = some ⟨b, off, none⟩ ∧ l[k]? = some x ∧ w'.cell? ⟨b, off + k, none⟩ = some (.int .i64 x) ∧ l[k + 1]? = some y ∧ w'.cell? ⟨b, off + (k + 1), none⟩ = some (.int .i64 y) := by
  obtain ⟨b, off, x, hA, hb, hx, hc⟩ := int_at h (k := k) (by omega) hkp
  obtain ⟨b2, off2, y, hA2, _, hy, hc2⟩ := int_at h hk hkp
  rw [hA] at hA2
  injection hA2 with hA2
  injection hA2 with e1 e2 _
  subst e1 e2
  exact ⟨b, off, x, y, hA, hx, hc, hy, hc2⟩

/-- Two rows stay apart where one of them is appended to. -/
theorem rows_apart {v v' u : Value} {s : Nat} (h : ∀ g, rowOf v = some g → rowOf u ≠ some g) (ha : v' = v ∨ rowOf v' = rowOf v ∨ rowOf v' = some s) (hu : ∀ g, rowOf u = some g → g < s) : ∀ g, rowOf v' = some g → rowOf u ≠ some g := by
  intro g hg hg2
  rcases ha with e | e | e
  · exact h g (by rw [← e]; exact hg) hg2
  · exact h g (by rw [← e]; exact hg) hg2
  · rw [e] at hg
    have := hu g hg2
    injection hg with hg
    omega

theorem rows_apart2 {v u u' : Value} {s : Nat} (h : ∀ g, rowOf v = some g → rowOf u ≠ some g) (ha : u' = u ∨ rowOf u' = rowOf u ∨ rowOf u' = some s) (hv : ∀ g, rowOf v = some g → g < s) : ∀ g, rowOf v = some g → rowOf u' ≠ some g := by
  intro g hg hg2
  exact rows_apart (fun g a b => h g b a) ha hv g hg2 hg

set_option maxRecDepth 4000 in
set_option maxHeartbeats 2000000 in
theorem recScans_walk (w : World) (A : Option Addr) (n c : Nat) (L : List (List UInt8)) (h : IsSl (sliceRep byteRep) w (· < w.heap.size) A n L) (h1 : n ≤ c) (h2 : c ≤ maxLen) (cut : Int) (_ : I64 cut) :
    Calls Try.prog 13 #[.slice A n c, .int .i64 cut] w fun e w' => e = .returned (.bool true) ∧ Below w.heap.size w w' := by
  obtain ⟨m, hm⟩ : ∃ m, m = min n 40 := ⟨_, rfl⟩
  have hmn : m ≤ n := by omega
  have hm40 : m ≤ 40 := by omega
  have hsl := h.cutTo (hi := m) hmn
  have hll : (L.take m).length = m := by rw [List.length_take, ← h.len]; omega
  obtain ⟨l, hl⟩ : ∃ l, l = L.take m := ⟨_, rfl⟩
  rw [← hl] at hsl hll
  have H := Lib.hid hsl
  have HLL := Lib.hid hll
  clear h hsl hll hl
  have hmc : m ≤ c := by omega
  have hnm : n ≤ 9223372036854775807 := by unfold maxLen at h2; omega
  obtain ⟨i0, hi, hz0, hz1, hz2⟩ := info_parts info_byte
  obtain ⟨j0, hj, hy0, hy1, hy2⟩ := info_parts info_int1
  by_cases h40 : n ≤ 40
  all_goals
    first | (have hm' : n = m := by omega) | (have hm' : 40 = m := by omega)
    have HM := Lib.hid hm'
    clear hm hm'
    go_enter Try.func13, Try.ntmps13
    go_wp2_with fail
    first | rw [show Value.slice A 40 c = Value.slice A m c by rw [HM.out]] | rw [show Value.slice A n c = Value.slice A m c by rw [HM.out]]
    clear HM
    go_loopw [5, 6, 7] (fun vb ve i wr => ∃ p : Nat, i = .int .i64 p ∧ p ≤ m ∧ (∀ x ∈ l.take p, x.length ≤ 5000) ∧ Own byteRep wr w.heap.size (fun _ => False) 5 vb (catL (l.take p)) ∧ Own intRep wr w.heap.size (fun _ => False) 3 ve (endsL l p) ∧ (∀ g, rowOf vb = some g → rowOf ve ≠ some g) ∧ Below w.heap.size w wr) (fun _ _ i _ => m - (intOf i).toNat)
    case atStart => exact ⟨0, rfl, by omega, by simp, Own.nil _ _ _ (fun _ h => h.elim) _ _, Own.nil _ _ _ (fun _ h => h.elim) _ _, by simp [rowOf], Below.refl _ _⟩
    case round =>
      obtain ⟨p, rfl, hp, hsh, hob, hoe, hrow, hbel⟩ := hrel
      have OB := Lib.hid hob
      have OE := Lib.hid hoe
      have HROW := Lib.hid hrow
      have HSH := Lib.hid hsh
      have hs := hbel.size
      clear hob hoe hrow hsh
      by_cases hlt : p < m
      · obtain ⟨bk, off, x, cs, hA, hbS, hx, ⟨A3, n3, c3, rfl, sl3, hc31, hc32⟩, hc⟩ := H.out.at_ hlt
        subst hA
        have c0 : wr.cell? ⟨bk, off + p, none⟩ = some (.slice A3 n3 c3) := (hbel.cell hbS).trans (by have e := hc 0 _ rfl; rw [show off + p * (sliceRep byteRep).size + 0 = off + p by show off + p * 1 + 0 = _; omega] at e; exact e)
        have hnx : n3 = x.length := sl3.len
        have HX := Lib.hid hx
        have SL3 := Lib.hid (((sl3.below hbel).more hs))
        have HNX := Lib.hid hnx
        have hbk : bk < wr.heap.size := Nat.lt_of_lt_of_le hbS hs
        clear hc hx sl3 hnx
        by_cases h5 : 5000 < n3
        · go_wp2_with (first
            | (go_at_call 30; (with_reducible refine (awake03_any _).mono ?_); rintro e w1 ⟨rfl, bel1⟩; have BEL1 := Lib.hid (hbel.trans (bel1.mono hs)); clear bel1)
            | fail)
          go_ret
          exact ⟨rfl, BEL1.out⟩
        · have HE := Lib.hid (show putE x = 0 by unfold putE; rw [if_pos (by rw [← HNX.out]; omega)])
          have HV := Lib.hid (show putV x = putB x by unfold putV; rw [if_pos (by rw [← HNX.out]; omega)])
          have CS := Lib.hid (catL_succ HX.out)
          have hlp : (l.take p).length = p := by rw [List.length_take, HLL.out]; omega
          have hcl := catL_le _ HSH.out
          rw [hlp] at hcl
          have HCL := Lib.hid (show (catL (l.take p)).length ≤ 200320 by omega)
          have HPL := Lib.hid (show (putB x).length = 8 + n3 by rw [putB_len, ← HNX.out])
          have HCL2 := Lib.hid (show (catL (l.take (p + 1))).length ≤ 205328 by rw [CS.out, List.length_append, HPL.out]; have := HCL.out; omega)
          have EN := Lib.hid (endsL_len l p)
          clear hlp hcl
          go_wp2_with (first
            | (go_at_call 28; (with_reducible refine (put_any A3 n3 c3 x _ SL3.out hc31 hc32).mono ?_); rintro e w1 ⟨v1, rfl, own1, bel1⟩; rw [HE.out]; rw [HV.out] at own1; obtain ⟨A1, c1, rfl, hc11, hc12, sl1⟩ := own1.isSlB; rw [HPL.out] at hc11 sl1 ⊢; have SL1 := Lib.hid sl1; have BEL1 := Lib.hid bel1; have hs1 := bel1.size; clear own1 sl1 bel1)
            | (go_at_call 30; (with_reducible refine (awake03_any _).mono ?_); rintro e w2 ⟨rfl, bel2⟩; have SL2 := Lib.hid ((SL1.out.below bel2).more bel2.size); have BEL2 := Lib.hid (BEL1.out.trans (bel2.mono hs1)); have hs2 := BEL2.out.size; have OB2 := Lib.hid (OB.out.below BEL2.out); have OE2 := Lib.hid (OE.out.below BEL2.out); have BW2 := Lib.hid (hbel.trans (BEL2.out.mono hs)); clear bel2)
            | (at_builtin; refine wpList_append_Own _ rfl (.tmp 47) (.tmp 48) 27 rfl w.heap.size 5 i0 _ 1 Try.underlying27 hi hz0 hz1 hz2 rfl (R := byteRep) (S := fun _ => False) (l := catL (l.take p)) (l' := putB x) u5 rfl OB2.out A1 (8 + n3) c1 rfl (SL2.out.srcF flat_byte (Below.refl _ _)) (by have := HCL.out; simp only [maxLen]; omega) (by have := HCL.out; omega) (by omega) BW2.out.size ?_; intro v3 w3 own3 gr3 at3; rw [← CS.out] at own3; have OE3 := Lib.hid (OE2.out.kept gr3 (fun g hg => ⟨HROW.out g hg, fun h => h⟩)); have ROW3 : Hid (∀ g, rowOf v3 = some g → rowOf u6 ≠ some g) := Lib.hid (rows_apart HROW.out at3 (fun g hg => OE2.out.row_lt hg)); have BW3 := Lib.hid (BW2.out.grown gr3 BW2.out.size (fun k hk => OB2.out.row_ge hk)); have OB3 := Lib.hid own3; obtain ⟨A4, c4, rfl⟩ := own3.form; clear own3 gr3 at3)
            | (at_builtin; refine wpList_append_Own _ rfl (.tmp 50) (.tmp 53) 60 rfl w.heap.size 3 j0 _ 8 Try.underlying60 hj hy0 hy1 hy2 rfl (R := intRep) (S := fun _ => False) (l := endsL l p) (l' := [((catL (l.take (p + 1))).length : Int)]) u6 rfl (OE3.out.alloc _) _ 1 _ rfl (Src.new (R := intRep) (cs := [.int .i64 ((catL (l.take (p + 1))).length : Int)]) ⟨rfl, by have := HCL2.out; unfold I64; omega⟩) (by rw [EN.out]; simp only [maxLen]; omega) (by rw [EN.out]; omega) (by omega) (by have := BW3.out.size; simp; omega) ?_; intro v5 w5 own5 gr5 at5; rw [← endsL_succ] at own5; have OB5 := Lib.hid ((OB3.out.alloc (.cells #[.int .i64 ((catL (l.take (p + 1))).length : Int)] 3)).kept gr5 (fun g hg => ⟨fun h => ROW3.out g h hg, fun h => h⟩)); have ROW5 : Hid (∀ g, rowOf (.slice A4 (catL (l.take (p + 1))).length c4) = some g → rowOf v5 ≠ some g) := Lib.hid (rows_apart2 ROW3.out at5 (fun g hg => (OB3.out.alloc (.cells #[.int .i64 ((catL (l.take (p + 1))).length : Int)] 3)).row_lt hg)); have BW5 := Lib.hid ((BW3.out.alloc BW3.out.size _).grown gr5 (by have := BW3.out.size; simp; omega) (fun k hk => OE3.out.row_ge hk)); have OE5 := Lib.hid own5; clear own5 gr5 at5)
            | fail)
          go_roundw
          case rel =>
            refine ⟨p + 1, by go_num, by omega, fun y hy => ?_, OB5.out, OE5.out, ROW5.out, BW5.out⟩
            rw [List.take_add_one, HX.out] at hy
            rcases List.mem_append.1 hy with hy | hy
            · exact HSH.out y hy
            · simp at hy; subst hy; rw [← HNX.out]; omega
          case measure => simp [intOf]; omega
      · have hpm : p = m := by omega
        have htk : l.take p = l := List.take_of_length_le (by rw [HLL.out]; omega)
        have hcl := catL_le l (by have := HSH.out; rwa [htk] at this)
        have hlp : l.length = p := by rw [HLL.out]; exact hpm.symm
        rw [hlp] at hcl
        have hsl5 := OB.out.isSlB
        rw [htk] at hsl5
        obtain ⟨Ab, cb, hv5, hcb1, hcb2, slb⟩ := hsl5
        obtain ⟨Ae, ce, hv6, hce1, hce2, sle⟩ := OE.out.isSlB
        rw [endsL_len] at hv6 hce1 sle
        subst hv5 hv6
        obtain ⟨N, hN⟩ : ∃ N, N = (catL l).length := ⟨_, rfl⟩
        rw [← hN] at hcl hcb1 slb ⊢
        have HN := Lib.hid hN
        have SLB := Lib.hid slb
        have SLE := Lib.hid sle
        have HLP := Lib.hid hlp
        have hN2 : N ≤ 200320 := by omega
        have hk := modOf_range cut ((N : Int) + 1) (by omega)
        obtain ⟨kn, hkn⟩ := Int.eq_ofNat_of_zero_le hk.1
        rw [hkn] at hk
        have HK := Lib.hid hkn
        have hknN : kn ≤ N := by omega
        have hknc : kn ≤ cb := by omega
        have HSHL := Lib.hid (show ∀ x ∈ l, x.length ≤ 1048576 by have h5 := HSH.out; rw [htk] at h5; exact fun x hx => Nat.le_trans (h5 x hx) (by omega))
        have HM : Hid (IsSl (sliceRep byteRep) w (· < w.heap.size) A p l) := Lib.hid (by rw [hpm]; exact H.out)
        have HPM := Lib.hid hpm
        have hp40 : p ≤ 40 := by omega
        clear htk hcl hlp hN slb sle hkn hk hpm H OB OE HROW HSH hmn hm40
        go_wp2_with (first
          | (go_at_call 24; (with_reducible refine (mod_any cut ((N : Int) + 1) _ (by omega) (by omega)).mono ?_); rintro e w' ⟨rfl, rfl⟩; rw [HK.out])
          | fail)
        go_loopw [11] (fun i w2 => ∃ k : Nat, i = .int .i64 k ∧ k ≤ p ∧ (catL (l.take k)).length ≤ kn ∧ w2 = wr) (fun i _ => p - (intOf i).toNat)
        case atStart => exact ⟨0, rfl, by omega, by simp [catL], rfl⟩
        case round =>
          obtain ⟨k, rfl, hk, hkl, rfl⟩ := hrel
          have HKL := Lib.hid hkl
          have hkm : k ≤ m := by rw [← HPM.out]; exact hk
          have hz0' : (catL (l.take 0)).length = 0 := by simp [catL]
          clear hkl
          by_cases hgo : k < p ∧ (catL (l.take (k + 1))).length ≤ kn
          · obtain ⟨hkp, hkl⟩ := hgo
            obtain ⟨be, oe, y, rfl, hbe, hy, hcy⟩ := int_at (w' := wr) SLE.out hkp (fun _ _ => rfl)
            rw [endsL_at l p k hkp] at hy
            obtain ⟨e1, he1⟩ : ∃ e1, e1 = (catL (l.take (k + 1))).length := ⟨_, rfl⟩
            rw [← he1] at hy hkl
            injection hy with hy
            subst hy
            have HE1 := Lib.hid he1
            clear he1
            go_wp2_with fail
            go_roundw
            case rel => exact ⟨k + 1, by go_num, by omega, by rw [← HE1.out]; exact hkl, by first | rfl | trivial⟩
            case measure => simp [intOf]; omega
          · have hend : k = p ∨ (k < p ∧ kn < (catL (l.take (k + 1))).length) := by omega
            have HSC := Lib.hid (scan_cut l HSHL.out k kn HKL.out (fun h => by rw [HLP.out] at h; omega) (by rw [HLP.out]; exact hk))
            have SLC := Lib.hid (SLB.out.cutTo (hi := kn) hknN)
            obtain ⟨z, hzz⟩ : ∃ z, z = (catL (l.take k)).length := ⟨_, rfl⟩
            have HS1 := Lib.hid (congrArg Prod.fst HSC.out)
            have HS2 := Lib.hid ((congrArg Prod.snd HSC.out).trans hzz.symm)
            have HZ := Lib.hid hzz
            have hkc : k ≤ c := by omega
            have KSL := Lib.hid (HM.out.cutTo (hi := k) hk)
            have HTL := Lib.hid (show (l.take k).length = k by rw [List.length_take, HLP.out]; omega)
            have hcase : (k = 0 ∧ z = 0 ∧ k = p) ∨ (k = 0 ∧ z = 0 ∧ k < p ∧ ∃ be oe e1 : Nat, Ae = some ⟨be, oe, none⟩ ∧ wr.cell? ⟨be, oe, none⟩ = some (.int .i64 e1) ∧ kn < e1) ∨ (∃ j be oe e1 : Nat, k = j + 1 ∧ k < p ∧ Ae = some ⟨be, oe, none⟩ ∧ wr.cell? ⟨be, oe + j, none⟩ = some (.int .i64 z) ∧ wr.cell? ⟨be, oe + (j + 1), none⟩ = some (.int .i64 e1) ∧ kn < e1) ∨ (∃ j be oe : Nat, k = j + 1 ∧ k = p ∧ Ae = some ⟨be, oe, none⟩ ∧ wr.cell? ⟨be, oe + j, none⟩ = some (.int .i64 z)) := by
              rcases Nat.eq_zero_or_pos k with h0 | h0
              · have hz : z = 0 := by rw [hzz, h0]; simp [catL]
                rcases hend with e | ⟨e, e2⟩
                · exact .inl ⟨h0, hz, e⟩
                · obtain ⟨be, oe, y, h1, hbe, hy, hcy⟩ := int_at (w' := wr) (k := k) SLE.out e (fun _ _ => rfl)
                  rw [endsL_at l p k e] at hy
                  injection hy with hy
                  subst hy
                  exact .inr (.inl ⟨h0, hz, e, be, oe, _, h1, by rwa [show oe + k = oe by omega] at hcy, e2⟩)
              · obtain ⟨j, hj⟩ : ∃ j, k = j + 1 := ⟨k - 1, by omega⟩
                rcases hend with e | ⟨e, e2⟩
                · obtain ⟨be, oe, y, h1, hbe, hy, hcy⟩ := int_at (w' := wr) (k := j) SLE.out (by omega) (fun _ _ => rfl)
                  rw [endsL_at l p j (by omega), ← hj, ← hzz] at hy
                  injection hy with hy
                  subst hy
                  exact .inr (.inr (.inr ⟨j, be, oe, hj, e, h1, hcy⟩))
                · obtain ⟨be, oe, y, y2, h1, hy, hcy, hy2, hcy2⟩ := int_at2 (w' := wr) (k := j) SLE.out (by omega) (fun _ _ => rfl)
                  rw [endsL_at l p j (by omega), ← hj, ← hzz] at hy
                  rw [endsL_at l p (j + 1) (by omega), ← hj] at hy2
                  injection hy with hy
                  injection hy2 with hy2
                  subst hy hy2
                  exact .inr (.inr (.inl ⟨j, be, oe, _, hj, e, h1, hcy, hcy2, e2⟩))
            clear hgo hend hzz hz0'
            rcases hcase with ⟨rfl, rfl, rfl⟩ | ⟨rfl, rfl, hkp, be, oe, e1, rfl, hce, hkl⟩ | ⟨j, be, oe, e1, rfl, hkp, rfl, hcz, hce, hkl⟩ | ⟨j, be, oe, rfl, rfl, rfl, hcz⟩
            all_goals
              go_wp2_with (first
                | (go_at_call 34; (with_reducible refine (scan_any Ab kn cb ((catL l).take kn) wr SLC.out hknc hcb2 (by omega)).mono ?_); rintro e w6 ⟨v6, S6, rfl, own6, bel6⟩; rw [HS2.out]; rw [HS1.out] at own6; obtain ⟨A6, c6, rfl, hc61, hc62, sl6⟩ := own6.isSl (S' := (· < w6.heap.size)) (fun q hq => own6.1 q hq) (fun _ _ h => h); rw [HTL.out] at hc61 sl6 ⊢; have BEL6 := Lib.hid bel6; have hs6 := bel6.size; have SL6 := Lib.hid sl6; clear own6 sl6 bel6)
                | (go_at_call 30; (with_reducible refine (awake03_any _).mono ?_); rintro e w7 ⟨rfl, bel7⟩; have SL7 := Lib.hid ((SL6.out.below bel7).more bel7.size); have BEL7 := Lib.hid (BEL6.out.trans (bel7.mono hs6)); have hs7 := BEL7.out.size; have BW7 := Lib.hid (hbel.trans (BEL7.out.mono hs)); have KS7 := Lib.hid ((KSL.out.below BW7.out).more BW7.out.size); clear bel7)
                | (go_at_call 36; (with_reducible refine (many_any A6 A _ _ c6 c _ _ SL7.out KS7.out (by omega)).mono ?_); rintro e w8 ⟨rfl, bel8⟩; have BW8 := Lib.hid (BW7.out.trans (bel8.mono BW7.out.size)); clear bel8)
                | fail)
            all_goals go_ret
            all_goals exact ⟨by simp, BW8.out⟩
end Go.Proofs.Ytfpmpihojjegbaa
