/- Struct types of the program as Lean structures: how they lie in cells, and how readings are opened into them. Written by gen_types.py. -/
import Derived.Test.YthhpddiicnjmmaaPlain
namespace Go.Proofs.Ythhpddiicnjmmaa
open Go.ChangeShapes Go.WideShapes Go.ChangeAt Go.RowKit Go.Deep

/-! ### qanat/api.Field -/
structure Fld where
  kind : Int
  n : Int
  s : ByteArray

instance : Inhabited Fld := ⟨⟨0, 0, ByteArray.empty⟩⟩
def Fld.cells (x : Fld) : List Value := [.int .i64 x.kind, .int .i64 x.n, .string x.s]
def Fld.wf (x : Fld) : Prop := I64 x.kind ∧ I64 x.n ∧ x.s.size ≤ maxLen
def fldRep : Rep Fld := Rep.flat 3 (by omega) Fld.cells Fld.wf (fun _ => rfl) (by
  intro a u hu
  simp only [Fld.cells, List.mem_cons, List.not_mem_nil, or_false] at hu
  rcases hu with rfl | rfl | rfl <;> rfl)
theorem flat_fld : Flat fldRep := fun _ _ _ _ _ _ h => h

set_option maxRecDepth 100000 in
theorem opens_fld {H : Type} {enc : TypeId × Value → H} {w : World} : Opens enc Try.prog w 41 fldRep := by
  intro fuel cs x h
  obtain ⟨xs, k, _, _, hlen, hxl, hf⟩ := DataW.trod_struct Try.underlying41 h
  rw [show Try.prog.cellsOf 41 = 3 from by kernel_rfl] at hlen
  match cs, hlen with
  | [v0, v1, v2], _ =>
    have hx : xs.length = 3 := hxl
    have h0 := (hf 0 _ rfl).trans (List.getElem?_eq_getElem (by omega))
    have e0 : DataW.trod enc Try.prog w 0 (fun _ => true) true k _ [v0] = some _ := h0
    obtain ⟨n0, q0, _, b0⟩ := DataW.trod_int (by kernel_rfl) e0
    obtain rfl : v0 = .int .i64 n0 := by simpa using q0
    have h1 := (hf 1 _ rfl).trans (List.getElem?_eq_getElem (by omega))
    have e1 : DataW.trod enc Try.prog w 0 (fun _ => true) true k _ [v1] = some _ := h1
    obtain ⟨n1, q1, _, b1⟩ := DataW.trod_int (by kernel_rfl) e1
    obtain rfl : v1 = .int .i64 n1 := by simpa using q1
    have h2 := (hf 2 _ rfl).trans (List.getElem?_eq_getElem (by omega))
    have e2 : DataW.trod enc Try.prog w 0 (fun _ => true) true k _ [v2] = some _ := h2
    obtain ⟨n2, q2, _, b2⟩ := DataW.trod_string (by kernel_rfl) e2
    obtain rfl : v2 = .string n2 := by simpa using q2
    exact ⟨⟨n0, n1, n2⟩, rfl, i64_of_wf b0, i64_of_wf b1, b2⟩

end Go.Proofs.Ythhpddiicnjmmaa
