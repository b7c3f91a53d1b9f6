/- Struct types of the program as Lean structures: how they lie in cells, and how readings are opened into them. Written by gen_types.py. -/
import Derived.Test.YtmnjjmgdeiejkaaOpen
import Derived.Test.YtmnjjmgdeiejkaaRows
namespace Go.Proofs.Ytmnjjmgdeiejkaa
open Go.ChangeShapes Go.WideShapes Go.ChangeAt Go.RowKit Go.Deep

/-! ### Plain kinds -/
/-- A number that an int64 (an int) holds. -/
def I64 (n : Int) : Prop := -9223372036854775808 ≤ n ∧ n ≤ 9223372036854775807

theorem i64_of_wf {n : Int} (h : (Lit.int .i64 n).wf = true) : I64 n := by
  simp [Lit.wf, IntKind.min, IntKind.max, IntKind.bits, IntKind.signed] at h
  exact ⟨by omega, by omega⟩

theorem wf_of_i64 {n : Int} (h : I64 n) : (Lit.int .i64 n).wf = true := by
  unfold I64 at h
  exact WalkArith.wf_i64 (by omega)

/-- An int. -/
def intRep : Rep Int := Rep.flat 1 (by omega) (fun n => [.int .i64 n]) I64 (fun _ => rfl) (by intro a u hu; simp at hu; subst hu; rfl)

/-- A bool. -/
def boolRep : Rep Bool := Rep.flat 1 (by omega) (fun n => [.bool n]) (fun _ => True) (fun _ => rfl) (by intro a u hu; simp at hu; subst hu; rfl)

/-- A string. -/
def strRep : Rep ByteArray := Rep.flat 1 (by omega) (fun n => [.string n]) (fun s => s.size ≤ maxLen) (fun _ => rfl) (by intro a u hu; simp at hu; subst hu; rfl)

/-- A byte. -/
def byteRep : Rep UInt8 := Rep.flat 1 (by omega) (fun b => [.int .u8 (b.toNat : Int)]) (fun _ => True) (fun _ => rfl) (by intro a u hu; simp at hu; subst hu; rfl)

theorem flat_int : Flat intRep := fun _ _ _ _ _ _ h => h
theorem flat_bool : Flat boolRep := fun _ _ _ _ _ _ h => h
theorem flat_str : Flat strRep := fun _ _ _ _ _ _ h => h
theorem flat_byte : Flat byteRep := fun _ _ _ _ _ _ h => h

theorem opens_str {H : Type} {enc : TypeId × Value → H} {w : World} : Opens enc Try.prog w 9 strRep := by
  intro fuel cs x h
  obtain ⟨s, rfl, _, hs⟩ := DataW.trod_string (by kernel_rfl) h
  exact ⟨s, rfl, hs⟩

theorem opens_byte {H : Type} {enc : TypeId × Value → H} {w : World} : Opens enc Try.prog w 5 byteRep := by
  intro fuel cs x h
  obtain ⟨n, rfl, _, hn⟩ := DataW.trod_int (k := .u8) (by kernel_rfl) h
  simp [Lit.wf, IntKind.min, IntKind.max, IntKind.bits, IntKind.signed] at hn
  refine ⟨UInt8.ofNat n.toNat, ?_, trivial⟩
  have : ((UInt8.ofNat n.toNat).toNat : Int) = n := by
    rw [UInt8.toNat_ofNat']
    omega
  simp only [this]


/-! ### qanat/api.Row -/
structure Row where
  key : Int
  val : ByteArray

instance : Inhabited Row := ⟨⟨0, ByteArray.empty⟩⟩
def Row.cells (x : Row) : List Value := [.int .i64 x.key, .string x.val]
def Row.wf (x : Row) : Prop := I64 x.key ∧ x.val.size ≤ maxLen
def rowRep : Rep Row := Rep.flat 2 (by omega) Row.cells Row.wf (fun _ => rfl) (by
  intro a u hu
  simp only [Row.cells, List.mem_cons, List.not_mem_nil, or_false] at hu
  rcases hu with rfl | rfl <;> rfl)
theorem flat_row : Flat rowRep := fun _ _ _ _ _ _ h => h

theorem opens_row {H : Type} {enc : TypeId × Value → H} {w : World} : Opens enc Try.prog w 32 rowRep := by
  intro fuel cs x h
  obtain ⟨xs, k, _, _, hlen, hxl, hf⟩ := DataW.trod_struct Try.underlying32 h
  rw [show Try.prog.cellsOf 32 = 2 from by kernel_rfl] at hlen
  match cs, hlen with
  | [v0, v1], _ =>
    have hx : xs.length = 2 := hxl
    have h0 := (hf 0 _ rfl).trans (List.getElem?_eq_getElem (by omega))
    have e0 : DataW.trod enc Try.prog w 0 (fun _ => true) true k _ [v0] = some _ := h0
    obtain ⟨n0, q0, _, b0⟩ := DataW.trod_int (by kernel_rfl) e0
    obtain rfl : v0 = .int .i64 n0 := by simpa using q0
    have h1 := (hf 1 _ rfl).trans (List.getElem?_eq_getElem (by omega))
    have e1 : DataW.trod enc Try.prog w 0 (fun _ => true) true k _ [v1] = some _ := h1
    obtain ⟨n1, q1, _, b1⟩ := DataW.trod_string (by kernel_rfl) e1
    obtain rfl : v1 = .string n1 := by simpa using q1
    exact ⟨⟨n0, n1⟩, rfl, i64_of_wf b0, b1⟩

end Go.Proofs.Ytmnjjmgdeiejkaa
