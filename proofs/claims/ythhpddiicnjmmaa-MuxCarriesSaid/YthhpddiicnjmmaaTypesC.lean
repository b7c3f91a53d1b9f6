/- Struct types of the program as Lean structures: how they lie in cells, and how readings are opened into them. Written by gen_types.py. -/
import Derived.Test.YthhpddiicnjmmaaPlain
namespace Go.Proofs.Ythhpddiicnjmmaa
open Go.ChangeShapes Go.WideShapes Go.ChangeAt Go.RowKit Go.Deep

/-! ### qanat/api.Config -/
structure Cfg where
  tables : Int
  late : Int
  size : Int
  queue : Int
  chunk : Int
  batch : Int
  base : Int
  cap : Int
  jitter : Int
  every : Int

instance : Inhabited Cfg := ⟨⟨0, 0, 0, 0, 0, 0, 0, 0, 0, 0⟩⟩
def Cfg.cells (x : Cfg) : List Value := [.int .i64 x.tables, .int .i64 x.late, .int .i64 x.size, .int .i64 x.queue, .int .i64 x.chunk, .int .i64 x.batch, .int .i64 x.base, .int .i64 x.cap, .int .i64 x.jitter, .int .i64 x.every]
def Cfg.wf (x : Cfg) : Prop := I64 x.tables ∧ I64 x.late ∧ I64 x.size ∧ I64 x.queue ∧ I64 x.chunk ∧ I64 x.batch ∧ I64 x.base ∧ I64 x.cap ∧ I64 x.jitter ∧ I64 x.every
def cfgRep : Rep Cfg := Rep.flat 10 (by omega) Cfg.cells Cfg.wf (fun _ => rfl) (by
  intro a u hu
  simp only [Cfg.cells, List.mem_cons, List.not_mem_nil, or_false] at hu
  rcases hu with rfl | rfl | rfl | rfl | rfl | rfl | rfl | rfl | rfl | rfl <;> rfl)
theorem flat_cfg : Flat cfgRep := fun _ _ _ _ _ _ h => h

set_option maxRecDepth 100000 in
theorem opens_cfg {H : Type} {enc : TypeId × Value → H} {w : World} : Opens enc Try.prog w 49 cfgRep := by
  intro fuel cs x h
  obtain ⟨xs, k, _, _, hlen, hxl, hf⟩ := DataW.trod_struct Try.underlying49 h
  rw [show Try.prog.cellsOf 49 = 10 from by kernel_rfl] at hlen
  match cs, hlen with
  | [v0, v1, v2, v3, v4, v5, v6, v7, v8, v9], _ =>
    have hx : xs.length = 10 := hxl
    have h0 := (hf 0 _ rfl).trans (List.getElem?_eq_getElem (by omega))
    have e0 : DataW.trod enc Try.prog w 0 (fun _ => true) true k _ [v0] = some _ := h0
    obtain ⟨n0, q0, _, b0⟩ := DataW.trod_int (by kernel_rfl) e0
    obtain rfl : v0 = .int .i64 n0 := by simpa using q0
    have h1 := (hf 1 _ rfl).trans (List.getElem?_eq_getElem (by omega))
    have e1 : DataW.trod enc Try.prog w 0 (fun _ => true) true k _ [v1] = some _ := h1
    obtain ⟨n1, q1, _, b1⟩ := DataW.trod_int (by kernel_rfl) e1
    obtain rfl : v1 = .int .i64 n1 := by simpa using q1
    have h2 := (hf 2 _ rfl).trans (List.getElem?_eq_getElem (by omega))
    have e2 : DataW.trod enc Try.prog w 0 (fun _ => true) true k _ [v2] = some _ := h2
    obtain ⟨n2, q2, _, b2⟩ := DataW.trod_int (by kernel_rfl) e2
    obtain rfl : v2 = .int .i64 n2 := by simpa using q2
    have h3 := (hf 3 _ rfl).trans (List.getElem?_eq_getElem (by omega))
    have e3 : DataW.trod enc Try.prog w 0 (fun _ => true) true k _ [v3] = some _ := h3
    obtain ⟨n3, q3, _, b3⟩ := DataW.trod_int (by kernel_rfl) e3
    obtain rfl : v3 = .int .i64 n3 := by simpa using q3
    have h4 := (hf 4 _ rfl).trans (List.getElem?_eq_getElem (by omega))
    have e4 : DataW.trod enc Try.prog w 0 (fun _ => true) true k _ [v4] = some _ := h4
    obtain ⟨n4, q4, _, b4⟩ := DataW.trod_int (by kernel_rfl) e4
    obtain rfl : v4 = .int .i64 n4 := by simpa using q4
    have h5 := (hf 5 _ rfl).trans (List.getElem?_eq_getElem (by omega))
    have e5 : DataW.trod enc Try.prog w 0 (fun _ => true) true k _ [v5] = some _ := h5
    obtain ⟨n5, q5, _, b5⟩ := DataW.trod_int (by kernel_rfl) e5
    obtain rfl : v5 = .int .i64 n5 := by simpa using q5
    have h6 := (hf 6 _ rfl).trans (List.getElem?_eq_getElem (by omega))
    have e6 : DataW.trod enc Try.prog w 0 (fun _ => true) true k _ [v6] = some _ := h6
    obtain ⟨n6, q6, _, b6⟩ := DataW.trod_int (by kernel_rfl) e6
    obtain rfl : v6 = .int .i64 n6 := by simpa using q6
    have h7 := (hf 7 _ rfl).trans (List.getElem?_eq_getElem (by omega))
    have e7 : DataW.trod enc Try.prog w 0 (fun _ => true) true k _ [v7] = some _ := h7
    obtain ⟨n7, q7, _, b7⟩ := DataW.trod_int (by kernel_rfl) e7
    obtain rfl : v7 = .int .i64 n7 := by simpa using q7
    have h8 := (hf 8 _ rfl).trans (List.getElem?_eq_getElem (by omega))
    have e8 : DataW.trod enc Try.prog w 0 (fun _ => true) true k _ [v8] = some _ := h8
    obtain ⟨n8, q8, _, b8⟩ := DataW.trod_int (by kernel_rfl) e8
    obtain rfl : v8 = .int .i64 n8 := by simpa using q8
    have h9 := (hf 9 _ rfl).trans (List.getElem?_eq_getElem (by omega))
    have e9 : DataW.trod enc Try.prog w 0 (fun _ => true) true k _ [v9] = some _ := h9
    obtain ⟨n9, q9, _, b9⟩ := DataW.trod_int (by kernel_rfl) e9
    obtain rfl : v9 = .int .i64 n9 := by simpa using q9
    exact ⟨⟨n0, n1, n2, n3, n4, n5, n6, n7, n8, n9⟩, rfl, i64_of_wf b0, i64_of_wf b1, i64_of_wf b2, i64_of_wf b3, i64_of_wf b4, i64_of_wf b5, i64_of_wf b6, i64_of_wf b7, i64_of_wf b8, i64_of_wf b9⟩

end Go.Proofs.Ythhpddiicnjmmaa
