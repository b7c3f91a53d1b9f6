/- Plain kinds: int, bool, string, byte: how they lie in cells, and how readings are opened into them. -/
import Derived.Test.YthhpddiicnjmmaaOpen
import Derived.Test.YthhpddiicnjmmaaRows
import Derived.Lib.Hide
namespace Go.Proofs.Ythhpddiicnjmmaa
open Go.ChangeShapes Go.WideShapes Go.ChangeAt Go.RowKit Go.Deep

/-- A number that an int64 (an int) holds. -/
def I64 (n : Int) : Prop := -9223372036854775808 ≤ n ∧ n ≤ 9223372036854775807

theorem i64_of_wf {n : Int} (h : (Lit.int .i64 n).wf = true) : I64 n := by
  simp [Lit.wf, IntKind.min, IntKind.max, IntKind.bits, IntKind.signed] at h
  exact ⟨by omega, by omega⟩

theorem wf_of_i64 {n : Int} (h : I64 n) : (Lit.int .i64 n).wf = true := by
  unfold I64 at h
  exact WalkArith.wf_i64 (by omega)

/-- An int. -/
def intRep : Rep Int := Rep.flat 1 (by omega) (fun n => [.int .i64 n]) I64 (fun _ => rfl) (by intro a u hu; simp at hu; subst hu; rfl)

/-- A bool. -/
def boolRep : Rep Bool := Rep.flat 1 (by omega) (fun n => [.bool n]) (fun _ => True) (fun _ => rfl) (by intro a u hu; simp at hu; subst hu; rfl)

/-- A string. -/
def strRep : Rep ByteArray := Rep.flat 1 (by omega) (fun n => [.string n]) (fun s => s.size ≤ maxLen) (fun _ => rfl) (by intro a u hu; simp at hu; subst hu; rfl)

/-- A byte. -/
def byteRep : Rep UInt8 := Rep.flat 1 (by omega) (fun b => [.int .u8 (b.toNat : Int)]) (fun _ => True) (fun _ => rfl) (by intro a u hu; simp at hu; subst hu; rfl)

theorem flat_int : Flat intRep := fun _ _ _ _ _ _ h => h
theorem flat_bool : Flat boolRep := fun _ _ _ _ _ _ h => h
theorem flat_str : Flat strRep := fun _ _ _ _ _ _ h => h
theorem flat_byte : Flat byteRep := fun _ _ _ _ _ _ h => h

theorem opens_str {H : Type} {enc : TypeId × Value → H} {w : World} : Opens enc Try.prog w 9 strRep := by
  intro fuel cs x h
  obtain ⟨s, rfl, _, hs⟩ := DataW.trod_string (by kernel_rfl) h
  exact ⟨s, rfl, hs⟩

theorem opens_byte {H : Type} {enc : TypeId × Value → H} {w : World} : Opens enc Try.prog w 5 byteRep := by
  intro fuel cs x h
  obtain ⟨n, rfl, _, hn⟩ := DataW.trod_int (k := .u8) (by kernel_rfl) h
  simp [Lit.wf, IntKind.min, IntKind.max, IntKind.bits, IntKind.signed] at hn
  refine ⟨UInt8.ofNat n.toNat, ?_, trivial⟩
  have : ((UInt8.ofNat n.toNat).toNat : Int) = n := by
    rw [UInt8.toNat_ofNat']
    omega
  simp only [this]

end Go.Proofs.Ythhpddiicnjmmaa
