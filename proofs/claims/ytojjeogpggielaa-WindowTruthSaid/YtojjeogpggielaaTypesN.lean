/- Struct types of the program as Lean structures: how they lie in cells, and how readings are opened into them. Written by gen_types.py. -/
import Derived.Test.YtojjeogpggielaaPlain
namespace Go.Proofs.Ytojjeogpggielaa
open Go.ChangeShapes Go.WideShapes Go.ChangeAt Go.RowKit Go.Deep

/-! ### qanat/api.Note -/
structure Note where
  kind : Int
  id : Int
  table : Int
  weight : Int
  at_ : Int
  cursor : Int
  done : Bool

instance : Inhabited Note := ⟨⟨0, 0, 0, 0, 0, 0, false⟩⟩
def Note.cells (x : Note) : List Value := [.int .i64 x.kind, .int .i64 x.id, .int .i64 x.table, .int .i64 x.weight, .int .i64 x.at_, .int .i64 x.cursor, .bool x.done]
def Note.wf (x : Note) : Prop := I64 x.kind ∧ I64 x.id ∧ I64 x.table ∧ I64 x.weight ∧ I64 x.at_ ∧ I64 x.cursor
def noteRep : Rep Note := Rep.flat 7 (by omega) Note.cells Note.wf (fun _ => rfl) (by
  intro a u hu
  simp only [Note.cells, List.mem_cons, List.not_mem_nil, or_false] at hu
  rcases hu with rfl | rfl | rfl | rfl | rfl | rfl | rfl <;> rfl)
theorem flat_note : Flat noteRep := fun _ _ _ _ _ _ h => h

set_option maxRecDepth 100000 in
theorem opens_note {H : Type} {enc : TypeId × Value → H} {w : World} : Opens enc Try.prog w 57 noteRep := by
  intro fuel cs x h
  obtain ⟨xs, k, _, _, hlen, hxl, hf⟩ := DataW.trod_struct Try.underlying57 h
  rw [show Try.prog.cellsOf 57 = 7 from by kernel_rfl] at hlen
  match cs, hlen with
  | [v0, v1, v2, v3, v4, v5, v6], _ =>
    have hx : xs.length = 7 := hxl
    have h0 := (hf 0 _ rfl).trans (List.getElem?_eq_getElem (by omega))
    have e0 : DataW.trod enc Try.prog w 0 (fun _ => true) true k _ [v0] = some _ := h0
    obtain ⟨n0, q0, _, b0⟩ := DataW.trod_int (by kernel_rfl) e0
    obtain rfl : v0 = .int .i64 n0 := by simpa using q0
    have h1 := (hf 1 _ rfl).trans (List.getElem?_eq_getElem (by omega))
    have e1 : DataW.trod enc Try.prog w 0 (fun _ => true) true k _ [v1] = some _ := h1
    obtain ⟨n1, q1, _, b1⟩ := DataW.trod_int (by kernel_rfl) e1
    obtain rfl : v1 = .int .i64 n1 := by simpa using q1
    have h2 := (hf 2 _ rfl).trans (List.getElem?_eq_getElem (by omega))
    have e2 : DataW.trod enc Try.prog w 0 (fun _ => true) true k _ [v2] = some _ := h2
    obtain ⟨n2, q2, _, b2⟩ := DataW.trod_int (by kernel_rfl) e2
    obtain rfl : v2 = .int .i64 n2 := by simpa using q2
    have h3 := (hf 3 _ rfl).trans (List.getElem?_eq_getElem (by omega))
    have e3 : DataW.trod enc Try.prog w 0 (fun _ => true) true k _ [v3] = some _ := h3
    obtain ⟨n3, q3, _, b3⟩ := DataW.trod_int (by kernel_rfl) e3
    obtain rfl : v3 = .int .i64 n3 := by simpa using q3
    have h4 := (hf 4 _ rfl).trans (List.getElem?_eq_getElem (by omega))
    have e4 : DataW.trod enc Try.prog w 0 (fun _ => true) true k _ [v4] = some _ := h4
    obtain ⟨n4, q4, _, b4⟩ := DataW.trod_int (by kernel_rfl) e4
    obtain rfl : v4 = .int .i64 n4 := by simpa using q4
    have h5 := (hf 5 _ rfl).trans (List.getElem?_eq_getElem (by omega))
    have e5 : DataW.trod enc Try.prog w 0 (fun _ => true) true k _ [v5] = some _ := h5
    obtain ⟨n5, q5, _, b5⟩ := DataW.trod_int (by kernel_rfl) e5
    obtain rfl : v5 = .int .i64 n5 := by simpa using q5
    have h6 := (hf 6 _ rfl).trans (List.getElem?_eq_getElem (by omega))
    have e6 : DataW.trod enc Try.prog w 0 (fun _ => true) true k _ [v6] = some _ := h6
    obtain ⟨n6, q6, _⟩ := DataW.trod_bool (by kernel_rfl) e6
    obtain rfl : v6 = .bool n6 := by simpa using q6
    exact ⟨⟨n0, n1, n2, n3, n4, n5, n6⟩, rfl, i64_of_wf b0, i64_of_wf b1, i64_of_wf b2, i64_of_wf b3, i64_of_wf b4, i64_of_wf b5⟩

end Go.Proofs.Ytojjeogpggielaa
