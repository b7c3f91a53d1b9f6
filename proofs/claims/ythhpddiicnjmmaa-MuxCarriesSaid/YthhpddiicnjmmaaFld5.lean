/- Contracts: field.Encode and the reference's Encode. -/
import Derived.Test.YthhpddiicnjmmaaFld4
import Derived.Deep.RegionHeld3
namespace Go.Proofs.Ythhpddiicnjmmaa
open Go.RowKit

/-- What Encode answers: the bytes and the error's number. -/
def encV (l : List Fld) : List UInt8 := (encO l).getD []
def encE (l : List Fld) : Int := if (encO l).isSome then 0 else 1

/-- An element's cells, where it lies. -/
def FldAt (w : World) (b o : Nat) (x : Fld) : Prop := w.cell? ⟨b, o, none⟩ = some (.int .i64 x.kind) ∧ w.cell? ⟨b, o + 1, none⟩ = some (.int .i64 x.n) ∧ w.cell? ⟨b, o + 2, none⟩ = some (.string x.s)

theorem IsSl.fld {w w' : World} {S : Nat → Prop} {A : Option Addr} {n k : Nat} {l : List Fld} (h : IsSl fldRep w S A n l) (hk : k < n) (hkp : ∀ p : Addr, S p.block → w'.cell? p = w.cell? p) :
    ∃ b off x, A = some ⟨b, off, none⟩ ∧ S b ∧ l[k]? = some x ∧ x.wf ∧ FldAt w' b (off + k * 3) x := by
  obtain ⟨b, off, x, cs, rfl, hbS, hx, ⟨rfl, hwf⟩, hc⟩ := h.at_ hk
  have hcc : ∀ (j : Nat) (u : Value), x.cells[j]? = some u → w'.cell? ⟨b, off + k * 3 + j, none⟩ = some u := fun j u hu => (hkp ⟨b, off + k * 3 + j, none⟩ hbS).trans (hc j u hu)
  exact ⟨b, off, x, rfl, hbS, hx, hwf, hcc 0 _ rfl, hcc 1 _ rfl, hcc 2 _ rfl⟩

theorem encO_none {l : List Fld} {k : Nat} {x : Fld} (hx : l[k]? = some x) (h : okField x = false) : encO l = none := by
  unfold encO
  rw [if_neg]
  rintro ⟨_, ha⟩
  rw [List.all_eq_true] at ha
  have := ha x (List.mem_of_getElem? hx)
  rw [h] at this
  cases this

theorem encO_all {l : List Fld} (h : l.length ≤ 32767) (ha : l.all okField = true) : encO l = some (bigB l.length 2 ++ encL l) := by
  unfold encO; rw [if_pos ⟨h, ha⟩]

theorem u64_wrap (n : Int) : IntKind.u64.wrap n = (asU64 n : Int) := by
  unfold asU64
  simp [IntKind.wrap, IntKind.bits, IntKind.signed]
  omega

theorem u64_lt (n : Int) : asU64 n < 18446744073709551616 := by unfold asU64; omega

set_option maxRecDepth 100000 in
set_option maxHeartbeats 2000000 in
theorem encode_any (A : Option Addr) (n c : Nat) (l : List Fld) (w : World) (h : IsSl fldRep w (· < w.heap.size) A n l) (hm : n ≤ 281474976710656) :
    Calls Try.prog 52 #[.slice A n c] w fun e w' => ∃ v, e = .returned (.tuple #[v, .int .i64 (encE l)]) ∧ Own byteRep w' w.heap.size (fun _ => False) 5 v (encV l) ∧ Below w.heap.size w w' := by
  obtain ⟨i0, hi, hz0, hz1, hz2⟩ := info_parts info_byte
  have HL := Lib.hid h.len
  by_cases hbig : 32767 < n
  · have HE := Lib.hid (show encO l = none by unfold encO; rw [if_neg]; rintro ⟨h1, _⟩; rw [← HL.out] at h1; omega)
    go_enter Try.func52, Try.ntmps52
    go_wp2
    go_ret2
    exact ⟨_, by unfold encE; rw [HE.out]; rfl, by unfold encV; rw [HE.out]; exact Own.nil _ _ _ (fun _ h => h.elim) _ _, Below.refl _ _⟩
  · have hn : n ≤ 32767 := by omega
    have H := Lib.hid h
    clear h hbig
    go_enter Try.func52, Try.ntmps52
    go_wp2_with (first
      | (go_at_call 113; (with_reducible refine (number_any (.slice none 0 0) [] n 2 w.heap.size n 2 rfl rfl (fun _ => False) _ (Own.nil _ _ _ (fun _ h => h.elim) _ _) (Nat.le_refl _) (by omega) (by omega) (by simp)).mono ?_); rintro ev w2 ⟨v2, rfl, own2, bel2, _⟩))
    go_loopw [4, 16] (fun v i wr => ∃ k : Nat, i = .int .i64 k ∧ k ≤ n ∧ Own byteRep wr w.heap.size (fun _ => False) 5 v (bigB n 2 ++ encL (l.take k)) ∧ (l.take k).all okField = true ∧ Below w.heap.size w wr) (fun _ i _ => n - (intOf i).toNat)
    case atStart => exact ⟨0, rfl, by omega, by simpa [encL] using own2, rfl, bel2⟩
    case round =>
      obtain ⟨k, rfl, hk, hown, hall, hbel⟩ := hrel
      have HO := Lib.hid hown
      have HA := Lib.hid hall
      have hsz := hbel.size
      have hel := encL_len hall
      obtain ⟨B, hB⟩ : ∃ B, B = bigB n 2 ++ encL (l.take k) := ⟨_, rfl⟩
      have hBl : B.length ≤ 200000000 := by rw [hB, List.length_append, bigB_len]; simp only [List.length_take] at hel; omega
      have hBne : B ≠ [] := by intro e; rw [hB] at e; simp [bigB] at e
      rw [← hB] at HO
      have HB := Lib.hid hB
      clear hown hall hel hB own2 bel2
      by_cases hlt : k < n
      · obtain ⟨b0, off, x, rfl, hbS, hx, hwf, c0, c1, c2⟩ := H.out.fld hlt (fun p hp => hbel.cell hp)
        have HX := Lib.hid hx
        have hrF : rowOf u4 ≠ some wr.heap.size := fun e => Nat.lt_irrefl _ (HO.out.row_lt e)
        have HRF := Lib.hid hrF
        clear hx hrF hBne
        cases hok : okField x with
        | false =>
          have HOK := Lib.hid hok
          have HE := Lib.hid (encO_none HX.out hok)
          clear hok
          go_wp2_with (go_at_call 114; (with_reducible refine (right_any x _).mono ?_); rintro e w3 ⟨rfl, bel3⟩; rw [HOK.out])
          go_ret2
          exact ⟨_, by unfold encE; rw [HE.out]; rfl, by unfold encV; rw [HE.out]; exact Own.nil _ _ _ (fun _ h => h.elim) _ _, (hbel.alloc hsz _).trans (bel3.mono (by simp; omega))⟩
        | true =>
          have HOK := Lib.hid hok
          unfold okField at hok
          simp at hok
          have hNX : encL (l.take (k + 1)) = encL (l.take k) ++ encF x := by rw [take_snoc HX.out, encL_snoc]
          have hAX : (l.take (k + 1)).all okField = true := by rw [take_snoc HX.out, List.all_append, HA.out]; simp [HOK.out]
          have HNX := Lib.hid hNX
          have HAX := Lib.hid hAX
          clear hNX hAX
          obtain ⟨kd, xn, xs⟩ := x
          dsimp only at hok c0 c1 c2
          rcases hok with ⟨rfl, hs0⟩ | ⟨⟨rfl, rfl⟩, hs⟩
          · have HEF := Lib.hid (show encF ⟨1, xn, xs⟩ = 1 :: bigB (asU64 xn) 8 from if_pos rfl)
            clear hs0
            go_wp2_with (first
              | (go_at_call 114; (with_reducible refine (right_any ⟨1, xn, xs⟩ _).mono ?_); rintro e w3 ⟨rfl, bel3⟩; rw [HOK.out]; have f0 : w3.cell? ⟨wr.heap.size, 0, none⟩ = some (.int .i64 1) := (bel3.cell (p := ⟨wr.heap.size, 0, none⟩) (by simp)).trans (World.cell?_alloc_at _ _ _ _ rfl); have f1 : w3.cell? ⟨wr.heap.size, 1, none⟩ = some (.int .i64 xn) := (bel3.cell (p := ⟨wr.heap.size, 1, none⟩) (by simp)).trans (World.cell?_alloc_at _ _ _ _ rfl); have OW3 := Lib.hid ((HO.out.alloc _).below bel3); have hs3 : wr.heap.size + 1 ≤ w3.heap.size := (by have := bel3.size; simpa using this); have bw3 : Below w.heap.size w w3 := (hbel.alloc hsz _).trans (bel3.mono (by simp; omega)); clear bel3)
              | (at_builtin; refine wpList_append_Own _ rfl _ _ 25 rfl w.heap.size 5 i0 _ 1 Try.underlying25 hi hz0 hz1 hz2 rfl (R := byteRep) (S := fun _ => False) (l := B) (l' := [1]) u4 rfl (OW3.out.alloc _) _ 1 1 rfl ?_ (by simp only [maxLen]; omega) (by omega) (by omega) (by simp; omega) ?_; exact Src.one (cs := [.int .u8 1]) ⟨rfl, trivial⟩ (by intro j u hu; rw [World.cell?_alloc_at _ _ _ _ rfl]; simpa using hu); intro v4 w4 own4 gr4 at4; have A4 := (Appended.one gr4 at4).alloc; have bw4 : Below w.heap.size w w4 := A4.isBelow bw3 (by omega) (fun g hg => OW3.out.row_ge hg); have g0 := (A4.cell (b := wr.heap.size) (j := 0) (by omega) HRF.out).trans f0; have g1 := (A4.cell (b := wr.heap.size) (j := 1) (by omega) HRF.out).trans f1; have OW4 := Lib.hid own4; have hs4 := bw4.size; clear gr4 at4 own4 A4)
              | (go_at_call 113; (with_reducible refine (number_any v4 (B ++ [1]) (asU64 xn) 8 w.heap.size _ 8 (u64_wrap xn) rfl (fun _ => False) _ OW4.out hs4 (u64_lt xn) (by omega) (by simp; omega)).mono ?_); rintro ev w5 ⟨v5, rfl, own5, bel5, _⟩))
            go_roundw
            case rel => exact ⟨k + 1, by go_num, by omega, by rw [HNX.out, HEF.out, ← List.append_assoc, ← HB.out]; simpa using own5, HAX.out, bw4.trans bel5⟩
            case measure => simp [intOf]; omega
          · have HEF := Lib.hid (show encF ⟨2, 0, xs⟩ = 2 :: (bigB xs.size 2 ++ xs.data.toList) from rfl)
            go_wp2_with (first
              | (go_at_call 114; (with_reducible refine (right_any ⟨2, 0, xs⟩ _).mono ?_); rintro e w3 ⟨rfl, bel3⟩; rw [HOK.out]; have f0 : w3.cell? ⟨wr.heap.size, 0, none⟩ = some (.int .i64 2) := (bel3.cell (p := ⟨wr.heap.size, 0, none⟩) (by simp)).trans (World.cell?_alloc_at _ _ _ _ rfl); have f2 : w3.cell? ⟨wr.heap.size, 2, none⟩ = some (.string xs) := (bel3.cell (p := ⟨wr.heap.size, 2, none⟩) (by simp)).trans (World.cell?_alloc_at _ _ _ _ rfl); have OW3 := Lib.hid ((HO.out.alloc _).below bel3); have hs3 : wr.heap.size + 1 ≤ w3.heap.size := (by have := bel3.size; simpa using this); have bw3 : Below w.heap.size w w3 := (hbel.alloc hsz _).trans (bel3.mono (by simp; omega)); clear bel3)
              | (at_builtin; refine wpList_append_Own _ rfl _ _ 25 rfl w.heap.size 5 i0 _ 1 Try.underlying25 hi hz0 hz1 hz2 rfl (R := byteRep) (S := fun _ => False) (l := B) (l' := [2]) u4 rfl (OW3.out.alloc _) _ 1 1 rfl ?_ (by simp only [maxLen]; omega) (by omega) (by omega) (by simp; omega) ?_; exact Src.one (cs := [.int .u8 2]) ⟨rfl, trivial⟩ (by intro j u hu; rw [World.cell?_alloc_at _ _ _ _ rfl]; simpa using hu); intro v4 w4 own4 gr4 at4; have A4 := (Appended.one gr4 at4).alloc; have bw4 : Below w.heap.size w w4 := A4.isBelow bw3 (by omega) (fun g hg => OW3.out.row_ge hg); have g0 := (A4.cell (b := wr.heap.size) (j := 0) (by omega) HRF.out).trans f0; have g2 := (A4.cell (b := wr.heap.size) (j := 2) (by omega) HRF.out).trans f2; have OW4 := Lib.hid own4; have hs4 := bw4.size; have HRF4 := Lib.hid (A4.row (b := wr.heap.size) (by omega) HRF.out); have hw4 : wr.heap.size < w4.heap.size := Nat.lt_of_lt_of_le (by omega) A4.1.size; clear gr4 at4 own4 A4))
            have hq1 : B ++ [2] ++ bigB xs.size 2 ≠ [] := by simp
            have hq2 : (B ++ [2] ++ bigB xs.size 2).length + xs.size ≤ 140737488355328 := by simp [bigB_len]; omega
            have hq3 : (B ++ [2]).length ≤ 1000000000000 := by simp; omega
            have hq4 : xs.size < 18446744073709551616 := by omega
            have HQ1 := Lib.hid hq1
            have hs4' : w.heap.size ≤ w4.drew.heap.size := hs4
            have OW4' := Lib.hid OW4.out.drew
            clear hq1
            go_region_held3 (fun w' => w'.cell? ⟨wr.heap.size, 2, none⟩ = some (.string xs)) (first | exact g2 | exact k2 | exact k3)
              (first
                | (go_at_call 113; (with_reducible refine (number_any v4 (B ++ [2]) xs.size 2 w.heap.size _ 2 (wrap_u64 xs.size hq4) rfl (fun _ => False) _ OW4'.out hs4' hq4 (by omega) hq3).mono ?_); rintro ev w5 ⟨v5, rfl, own5, bel5, app5⟩; have k2 : w5.cell? ⟨wr.heap.size, 2, none⟩ = some (.string xs) := (app5.cell hw4 HRF4.out).trans g2; have HRF5 := Lib.hid (app5.row hw4 HRF4.out); have hw5 : wr.heap.size < w5.heap.size := Nat.lt_of_lt_of_le hw4 app5.1.size; have OW5 := Lib.hid own5; have hs5 : w.heap.size ≤ w5.heap.size := Nat.le_trans hs4 app5.1.size; have bw5 := Lib.hid (bw4.trans (below_of_drew' bel5)); clear own5 bel5 app5)
                | ((refine step_append_Own_str rfl _ _ 25 9 rfl w.heap.size 5 i0 Try.underlying25 Try.underlying9 hi hz0 hz1 hz2 v5 rfl OW5.out HQ1.out xs rfl hq2 hs5 ?_; intro v6 w6 own6 gr6; have k3 : w6.cell? ⟨wr.heap.size, 2, none⟩ = some (.string xs) := (World.cell?_of_block (a := ⟨wr.heap.size, 2, none⟩) (gr6.block wr.heap.size hw5 (fun e => HRF5.out e.symm))).trans k2; have OW6 := Lib.hid own6; have bw6 := Lib.hid (bw5.out.grown gr6 hs5 (fun g hg => OW5.out.row_ge hg)); clear own6 gr6))
                | fail)
            go_wp2
            go_roundw
            case rel => exact ⟨k + 1, by go_num, by omega, by rw [HNX.out, HEF.out, ← List.append_assoc, ← HB.out]; simpa using OW6.out, HAX.out, bw6.out⟩
            case measure => simp [intOf]; omega
      · have hge : k = n := by omega
        have HE := Lib.hid (show encO l = some B by rw [encO_all (by rw [← HL.out]; omega) (by have := HA.out; rwa [List.take_of_length_le (by rw [← HL.out]; omega)] at this), HB.out, List.take_of_length_le (by rw [← HL.out]; omega), ← HL.out])
        subst hge
        go_wp2
        go_ret2
        exact ⟨_, by unfold encE; rw [HE.out]; rfl, by unfold encV; rw [HE.out]; exact HO.out, hbel⟩
end Go.Proofs.Ythhpddiicnjmmaa
