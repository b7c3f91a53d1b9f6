/- Contracts: rec.four, rec.holder.size, slices.Grow (onto nil), slices.Concat. -/
import Derived.Test.YthhpddiicnjmmaaMemB
import Derived.Test.YthhpddiicnjmmaaFldL
import Derived.Test.YthhpddiicnjmmaaSum
import Derived.Test.YthhpddiicnjmmaaHelpL
import Derived.Lib.AppendZeros
set_option maxRecDepth 100000
namespace Go.Proofs.Ythhpddiicnjmmaa
open Go.RowKit

theorem info_byte4 : (Try.prog.info? 5).map (fun i => (i.zero, i.size, i.bytes)) = some (some (.int .u8 0), 1, 1) := by kernel_rfl

theorem four_bytes (x : Nat) (hx : x < 4294967296) : (#[.int .u8 ((x : Int) / 16777216), .int .u8 ((x : Int) / 65536 % 256), .int .u8 ((x : Int) / 256 % 256), .int .u8 ((x : Int) % 256)] : Array Value) = (byteVals (bigB x 4)).toArray := by
  have h3 : ((UInt8.ofNat (x / 256 ^ 3)).toNat : Int) = (x : Int) / 16777216 := by rw [UInt8.toNat_ofNat']; omega
  have h2 : ((UInt8.ofNat (x / 256 ^ 2)).toNat : Int) = (x : Int) / 65536 % 256 := by rw [UInt8.toNat_ofNat']; omega
  have h1 : ((UInt8.ofNat (x / 256 ^ 1)).toNat : Int) = (x : Int) / 256 % 256 := by rw [UInt8.toNat_ofNat']; omega
  have h0 : ((UInt8.ofNat (x / 256 ^ 0)).toNat : Int) = (x : Int) % 256 := by rw [UInt8.toNat_ofNat']; omega
  rw [← h3, ← h2, ← h1, ← h0]
  rfl

set_option maxHeartbeats 1000000 in
theorem four_any (x : Nat) (xi : Int) (hxi : xi = (x : Int)) (w : World) (hx : x < 4294967296) :
    Calls Try.prog 148 #[.int .u32 xi] w fun e w' => ∃ g, e = .returned (.slice (some ⟨g, 0, none⟩) 4 4) ∧ w.heap.size ≤ g ∧ g < w'.heap.size ∧ IsSl byteRep w' (· < w'.heap.size) (some ⟨g, 0, none⟩) 4 (bigB x 4) ∧ Below w.heap.size w w' := by
  subst hxi
  go_enter Try.func148, Try.ntmps148
  go_wp2
  go_ret
  exact ⟨_, rfl, Nat.le_refl _, by simp, IsSl.newBytes _ (four_bytes x hx) (bigB_len x 4).symm (by simp), (Below.refl _ _).alloc (Nat.le_refl _) _⟩

set_option maxHeartbeats 1000000 in
theorem grow_any (n : Nat) (w : World) (hn : n ≤ 100000000000) :
    Calls Try.prog 150 #[.slice none 0 0, .int .i64 (n : Int)] w fun e w' => ∃ v, e = .returned v ∧ Own byteRep w' w.heap.size (fun _ => False) 5 v [] ∧ Below w.heap.size w w' := by
  obtain ⟨i0, hi, hz0, hz1, hz2⟩ := info_parts info_byte4
  rcases Nat.eq_zero_or_pos n with h0 | h0
  · subst h0
    go_enter Try.func150, Try.ntmps150
    go_wp2
    go_ret
    exact ⟨_, rfl, Own.nil _ _ _ (fun _ h => h.elim) _ _, Below.refl _ _⟩
  · have hrun := Lib.run_append_nil_zeros (P := Try.prog) w 25 3 25 5 i0 (.int .u8 0) .i64 .i64 Try.underlying25 Try.underlying3 hi hz0 n h0 (by omega) (by omega) (by rw [hz2]; omega)
    have HR := Lib.hid hrun
    have hge := grownCap_ge w n 0 5
    have hcm : grownCap w n 0 5 ≤ maxLen := grownCap_le_maxLen w n 0 5 (by unfold maxLen; omega)
    obtain ⟨C, hC⟩ : ∃ C, C = grownCap w n 0 5 := ⟨_, rfl⟩
    rw [← hC] at hge hcm HR
    have hcm' := hcm
    unfold maxLen at hcm'
    clear hrun hC
    go_enter Try.func150, Try.ntmps150
    go_wp2_with (at_builtin; refine Lib.wpList_append_run _ rfl _ _ _ _ rfl _ _ rfl rfl _ _ HR.out ?_)
    go_ret
    refine ⟨_, rfl, ⟨fun _ h => h.elim, .inr ⟨w.heap.size, C, _, [], rfl, Nat.le_refl _, id, heap_alloc_new w.drew _, Nat.zero_le _, hcm, ?_, Rows.nil, by simp⟩⟩, ((Below.refl _ _).drew).alloc (Nat.le_refl _) _⟩
    simp only [Array.size_append, size_zeroCells]
    show n * 1 + (C - n) * 1 = C * 1
    omega

theorem take_snoc2 {α : Type} {l : List α} {k : Nat} {x : α} (h : l[k]? = some x) : l.take (k + 1) = l.take k ++ [x] := by
  obtain ⟨hk, rfl⟩ := List.getElem?_eq_some_iff.1 h
  exact List.take_succ_eq_append_getElem hk

/-- The rows of a list of lists, one behind the other. -/
def lensOf (L : List (List UInt8)) : Nat := L.flatten.length

set_option maxHeartbeats 2000000 in
theorem concat_any (A : Option Addr) (n c : Nat) (L : List (List UInt8)) (w : World) (h : IsSl (sliceRep byteRep) w (· < w.heap.size) A n L) (hn : n ≤ 1000000) (hl : lensOf L ≤ 100000000000) :
    Calls Try.prog 116 #[.slice A n c] w fun e w' => ∃ v, e = .returned v ∧ Own byteRep w' w.heap.size (fun _ => False) 5 v L.flatten ∧ Below w.heap.size w w' := by
  obtain ⟨i0, hi, hz0, hz1, hz2⟩ := info_parts info_byte4
  have HL := Lib.hid h.len
  go_enter Try.func116, Try.ntmps116
  go_wp2_with fail
  go_loop [3, 11] (fun s i => ∃ p : Nat, i = .int .i64 p ∧ p ≤ n ∧ s = .int .i64 (lensOf (L.take p) : Int)) (fun _ i => n - (intOf i).toNat)
  case atStart => exact ⟨0, rfl, Nat.zero_le _, rfl⟩
  case round =>
    obtain ⟨p, rfl, hp, rfl⟩ := hrel
    by_cases hlt : p < n
    · obtain ⟨b, off, x, cs, rfl, hbS, hx, ⟨Ax, nx, cx, rfl, hsx, hx1, hx2⟩, hc⟩ := h.at_ hlt
      have c0 : w.cell? ⟨b, off + p, none⟩ = some (.slice Ax nx cx) := by have h0 := hc 0 _ rfl; rw [show off + p * (sliceRep byteRep).size + 0 = off + p by show off + p * 1 + 0 = _; omega] at h0; exact h0
      have hst : lensOf (L.take (p + 1)) = lensOf (L.take p) + nx := by unfold lensOf; rw [take_snoc2 hx, List.flatten_append, List.length_append, hsx.len]; simp
      have hle : lensOf (L.take (p + 1)) ≤ lensOf L := by unfold lensOf; rw [← List.take_append_drop (p + 1) L, List.flatten_append, List.length_append, List.take_append_drop]; omega
      obtain ⟨z, hz⟩ : ∃ z, z = lensOf (L.take p) := ⟨_, rfl⟩
      rw [← hz] at hst ⊢
      have hzn : z + nx ≤ 100000000000 := by omega
      have HST := Lib.hid hst
      clear hc hx hsx hz hst
      go_wp2_with fail
      go_round
      case rel => exact ⟨p + 1, by go_num, by omega, by rw [HST.out]; go_num⟩
      case measure => simp [intOf]; omega
    · obtain rfl : p = n := by omega
      have htk : L.take p = L := List.take_of_length_le (by rw [← HL.out]; exact Nat.le_refl _)
      rw [htk]
      have H := Lib.hid h
      clear htk h hlt
      obtain ⟨z, hz⟩ : ∃ z, z = lensOf L := ⟨_, rfl⟩
      rw [← hz] at hl ⊢
      have HZ := Lib.hid hz
      clear hz
      go_wp2_with (first
        | (go_at_call 150; (with_reducible refine (grow_any z _ hl).mono ?_); rintro e w2 ⟨v2, rfl, own2, bel2⟩)
        | fail)
      go_loopw [6, 27] (fun v i wr => ∃ q : Nat, i = .int .i64 q ∧ q ≤ p ∧ Own byteRep wr w.heap.size (fun _ => False) 5 v (L.take q).flatten ∧ Below w.heap.size w wr) (fun _ i _ => p - (intOf i).toNat)
      case atStart => exact ⟨0, rfl, Nat.zero_le _, own2, bel2⟩
      case round =>
        obtain ⟨q, rfl, hq, hown, hbel⟩ := hrel
        have HO := Lib.hid hown
        have hsz := hbel.size
        obtain ⟨F, hF⟩ : ∃ F, F = (L.take q).flatten := ⟨_, rfl⟩
        have hFl : F.length ≤ lensOf L := by rw [hF]; unfold lensOf; rw [← List.take_append_drop q L, List.flatten_append, List.length_append, List.take_append_drop]; omega
        rw [← hF] at HO
        rw [← HZ.out] at hFl
        have HF := Lib.hid hF
        clear hown hF
        by_cases hlt : q < p
        · obtain ⟨b, off, x, cs, rfl, hbS, hx, ⟨Ax, nx, cx, rfl, hsx, hx1, hx2⟩, hc⟩ := H.out.at_ hlt
          have c0 : wr.cell? ⟨b, off + q, none⟩ = some (.slice Ax nx cx) := by have h0 := hc 0 _ rfl; rw [show off + q * (sliceRep byteRep).size + 0 = off + q by show off + q * 1 + 0 = _; omega] at h0; exact (hbel.cell (p := ⟨b, off + q, none⟩) hbS).trans h0
          have hst : (L.take (q + 1)).flatten = F ++ x := by rw [take_snoc2 hx, List.flatten_append, ← HF.out]; simp
          have hle : F.length + nx ≤ z := by
            have h1 : (L.take (q + 1)).flatten.length ≤ lensOf L := by unfold lensOf; rw [← List.take_append_drop (q + 1) L, List.flatten_append, List.length_append, List.take_append_drop]; omega
            rw [hst, List.length_append, ← hsx.len, ← HZ.out] at h1
            exact h1
          have HST := Lib.hid hst
          have HSX := Lib.hid hsx
          clear hc hx hsx hst
          go_wp2_with (first
            | (at_builtin; refine wpList_append_Own _ rfl _ _ 25 rfl w.heap.size 5 i0 _ 1 Try.underlying25 hi hz0 hz1 hz2 rfl (R := byteRep) (S := fun _ => False) (l := F) (l' := x) u6 rfl HO.out Ax nx cx rfl (HSX.out.srcF flat_byte hbel) (by simp only [maxLen]; omega) (by omega) (by omega) hsz ?_; intro v5 w5 own5 gr5 at5; have bw5 := hbel.grown gr5 hsz (fun g hg => HO.out.row_ge hg); have OW5 := Lib.hid own5; clear own5 gr5 at5)
            | fail)
          go_roundw
          case rel => exact ⟨q + 1, by go_num, by omega, by rw [HST.out]; exact OW5.out, bw5⟩
          case measure => simp [intOf]; omega
        · obtain rfl : q = p := by omega
          have hFL : F = L.flatten := by rw [HF.out, List.take_of_length_le (by rw [← HL.out]; exact Nat.le_refl _)]
          have HFL := Lib.hid hFL
          clear hFL
          go_wp2_with fail
          go_ret
          exact ⟨_, rfl, by rw [← HFL.out]; exact HO.out, hbel⟩
end Go.Proofs.Ythhpddiicnjmmaa
