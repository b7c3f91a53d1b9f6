/- Contracts of piece: Ints, Text, Bit. -/
import Derived.Test.YthhpddiicnjmmaaPce1
set_option linter.unusedVariables false
namespace Go.Proofs.Ythhpddiicnjmmaa
open Go.RowKit

def numF (n : Int) : Fld := ⟨1, n, ByteArray.empty⟩
def txtF (s : ByteArray) : Fld := ⟨2, 0, s⟩

theorem numF_wf {n : Int} (h : I64 n) : (numF n).wf := ⟨by unfold I64; show -9223372036854775808 ≤ (1 : Int) ∧ (1 : Int) ≤ 9223372036854775807; omega, h, by show 0 ≤ _; omega⟩
theorem txtF_wf {s : ByteArray} (h : s.size ≤ maxLen) : (txtF s).wf := ⟨by unfold I64; show -9223372036854775808 ≤ (2 : Int) ∧ (2 : Int) ≤ 9223372036854775807; omega, by unfold I64; show -9223372036854775808 ≤ (0 : Int) ∧ (0 : Int) ≤ 9223372036854775807; omega, h⟩

theorem IsSl.int {w w' : World} {B n k : Nat} {A : Option Addr} {l : List Int} (h : IsSl intRep w (· < B) A n l) (hk : k < n) (hw : ∀ p : Addr, p.block < B → w'.cell? p = w.cell? p) :
    ∃ b off x, A = some ⟨b, off, none⟩ ∧ b < B ∧ l[k]? = some x ∧ I64 x ∧ w'.cell? ⟨b, off + k, none⟩ = some (.int .i64 x) := by
  obtain ⟨b, off, x, cs, rfl, hb, hx, ⟨rfl, hw2⟩, hc⟩ := h.at_ hk
  have h0 := hc 0 _ rfl
  rw [show off + k * intRep.size + 0 = off + k by show off + k * 1 + 0 = _; omega] at h0
  exact ⟨b, off, x, rfl, hb, hx, hw2, (hw _ hb).trans h0⟩

set_option maxRecDepth 100000 in
set_option maxHeartbeats 2000000 in
theorem ints_any (A : Option Addr) (n c : Nat) (l : List Int) (w : World) (h : IsSl intRep w (· < w.heap.size) A n l) (hm : n ≤ 1000000) :
    Calls Try.prog 50 #[.slice A n c] w fun e w' => ∃ v, e = .returned v ∧ Own fldRep w' w.heap.size (fun _ => False) 41 v (l.map numF) ∧ Below w.heap.size w w' := by
  obtain ⟨i0, hi, hz0, hz1, hz2⟩ := info_parts info_fld
  have H := Lib.hid h
  have HL := Lib.hid h.len
  clear h
  go_enter Try.func50, Try.ntmps50
  go_wp2_with fail
  go_loopw [3, 8] (fun v i wr => ∃ p : Nat, i = .int .i64 p ∧ p ≤ n ∧ Own fldRep wr w.heap.size (fun _ => False) 41 v ((l.take p).map numF) ∧ Below w.heap.size w wr) (fun _ i _ => n - (intOf i).toNat)
  case atStart => exact ⟨0, rfl, Nat.zero_le _, Own.nil (R := fldRep) w w.heap.size (fun _ => False) (fun _ h => h.elim) _ none, Below.refl _ _⟩
  case round =>
    obtain ⟨p, rfl, hpn, hown, hbel⟩ := hrel
    have HO := Lib.hid hown
    have hsz := hbel.size
    obtain ⟨B, hB⟩ : ∃ B, B = (l.take p).map numF := ⟨_, rfl⟩
    rw [← hB] at HO
    have hBl : B.length ≤ 1000000 := by rw [hB, List.length_map, List.length_take]; omega
    have HB := Lib.hid hB
    clear hown hB
    by_cases hlt : p < n
    · obtain ⟨b0, off, x, rfl, hbS, hx, hwf, c0⟩ := H.out.int hlt (fun p hp => hbel.cell hp)
      have HSN := Lib.hid (show (l.take (p + 1)).map numF = B ++ [numF x] by rw [take_snoc hx, List.map_append, HB.out]; rfl)
      have HWF := Lib.hid (numF_wf hwf)
      clear hx hwf
      go_wp2_with (first
        | (at_builtin; refine wpList_append_Own _ rfl _ _ 38 rfl w.heap.size 41 i0 _ 32 Try.underlying38 hi hz0 hz1 hz2 rfl (R := fldRep) (S := fun _ => False) (l := B) (l' := [numF x]) u3 rfl (HO.out.alloc _) _ 1 1 rfl ?_ (by simp only [maxLen]; omega) (by omega) (by omega) (by simp; omega) ?_; exact Src.new (cs := (numF x).cells) ⟨rfl, HWF.out⟩; intro v5 w5 own5 gr5 at5; have OW5 := Lib.hid own5; have bw5 : Below w.heap.size w w5 := (hbel.alloc hsz _).grown gr5 (by simp; omega) (fun k hk => HO.out.row_ge hk); clear own5 gr5 at5)
        | fail)
      go_roundw
      case rel => exact ⟨p + 1, by go_num, by omega, by rw [HSN.out]; exact OW5.out, bw5⟩
      case measure => simp [intOf]; omega
    · have HE := Lib.hid (show B = l.map numF by rw [HB.out, List.take_of_length_le (by rw [← HL.out]; omega)])
      go_wp2
      go_ret
      exact ⟨_, rfl, by rw [← HE.out]; exact HO.out, hbel⟩

set_option maxRecDepth 100000 in
set_option maxHeartbeats 1000000 in
theorem ptxt_any (s : ByteArray) (w : World) :
    Calls Try.prog 51 #[.string s] w fun e w' => e = .returned (.agg #[.int .i64 2, .int .i64 0, .string s]) ∧ Below w.heap.size w w' := by
  go_enter Try.func51, Try.ntmps51
  go_wp2
  first
    | (go_ret; exact ⟨rfl, Below.refl _ _⟩)
    | (refine bodyPost_ret (by simp [results, Try.results51, go_sem]; try rfl) rfl ?_; exact ⟨rfl, (Below.refl _ _).alloc (Nat.le_refl _) _⟩)

/-- A bit as a number. -/
def bitI (b : Bool) : Int := if b then 1 else 0

end Go.Proofs.Ythhpddiicnjmmaa
