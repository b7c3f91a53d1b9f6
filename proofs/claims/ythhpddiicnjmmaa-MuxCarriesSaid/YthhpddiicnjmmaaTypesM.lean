/- Struct types of the program as Lean structures: how they lie in cells, and how readings are opened into them. Written by gen_types.py. -/
import Derived.Test.YthhpddiicnjmmaaPlain
namespace Go.Proofs.Ythhpddiicnjmmaa
open Go.ChangeShapes Go.WideShapes Go.ChangeAt Go.RowKit Go.Deep

/-! ### qanat/api.Row -/
structure Row where
  key : Int
  val : ByteArray

instance : Inhabited Row := ⟨⟨0, ByteArray.empty⟩⟩
def Row.cells (x : Row) : List Value := [.int .i64 x.key, .string x.val]
def Row.wf (x : Row) : Prop := I64 x.key ∧ x.val.size ≤ maxLen
def rowRep : Rep Row := Rep.flat 2 (by omega) Row.cells Row.wf (fun _ => rfl) (by
  intro a u hu
  simp only [Row.cells, List.mem_cons, List.not_mem_nil, or_false] at hu
  rcases hu with rfl | rfl <;> rfl)
theorem flat_row : Flat rowRep := fun _ _ _ _ _ _ h => h

set_option maxRecDepth 100000 in
theorem opens_row {H : Type} {enc : TypeId × Value → H} {w : World} : Opens enc Try.prog w 80 rowRep := by
  intro fuel cs x h
  obtain ⟨xs, k, _, _, hlen, hxl, hf⟩ := DataW.trod_struct Try.underlying80 h
  rw [show Try.prog.cellsOf 80 = 2 from by kernel_rfl] at hlen
  match cs, hlen with
  | [v0, v1], _ =>
    have hx : xs.length = 2 := hxl
    have h0 := (hf 0 _ rfl).trans (List.getElem?_eq_getElem (by omega))
    have e0 : DataW.trod enc Try.prog w 0 (fun _ => true) true k _ [v0] = some _ := h0
    obtain ⟨n0, q0, _, b0⟩ := DataW.trod_int (by kernel_rfl) e0
    obtain rfl : v0 = .int .i64 n0 := by simpa using q0
    have h1 := (hf 1 _ rfl).trans (List.getElem?_eq_getElem (by omega))
    have e1 : DataW.trod enc Try.prog w 0 (fun _ => true) true k _ [v1] = some _ := h1
    obtain ⟨n1, q1, _, b1⟩ := DataW.trod_string (by kernel_rfl) e1
    obtain rfl : v1 = .string n1 := by simpa using q1
    exact ⟨⟨n0, n1⟩, rfl, i64_of_wf b0, b1⟩

/-! ### qanat/api.Change -/
structure Chg where
  table : Int
  key : Int
  gone : Bool
  val : ByteArray

instance : Inhabited Chg := ⟨⟨0, 0, false, ByteArray.empty⟩⟩
def Chg.cells (x : Chg) : List Value := [.int .i64 x.table, .int .i64 x.key, .bool x.gone, .string x.val]
def Chg.wf (x : Chg) : Prop := I64 x.table ∧ I64 x.key ∧ x.val.size ≤ maxLen
def chgRep : Rep Chg := Rep.flat 4 (by omega) Chg.cells Chg.wf (fun _ => rfl) (by
  intro a u hu
  simp only [Chg.cells, List.mem_cons, List.not_mem_nil, or_false] at hu
  rcases hu with rfl | rfl | rfl | rfl <;> rfl)
theorem flat_chg : Flat chgRep := fun _ _ _ _ _ _ h => h

set_option maxRecDepth 100000 in
theorem opens_chg {H : Type} {enc : TypeId × Value → H} {w : World} : Opens enc Try.prog w 162 chgRep := by
  intro fuel cs x h
  obtain ⟨xs, k, _, _, hlen, hxl, hf⟩ := DataW.trod_struct Try.underlying162 h
  rw [show Try.prog.cellsOf 162 = 4 from by kernel_rfl] at hlen
  match cs, hlen with
  | [v0, v1, v2, v3], _ =>
    have hx : xs.length = 4 := hxl
    have h0 := (hf 0 _ rfl).trans (List.getElem?_eq_getElem (by omega))
    have e0 : DataW.trod enc Try.prog w 0 (fun _ => true) true k _ [v0] = some _ := h0
    obtain ⟨n0, q0, _, b0⟩ := DataW.trod_int (by kernel_rfl) e0
    obtain rfl : v0 = .int .i64 n0 := by simpa using q0
    have h1 := (hf 1 _ rfl).trans (List.getElem?_eq_getElem (by omega))
    have e1 : DataW.trod enc Try.prog w 0 (fun _ => true) true k _ [v1] = some _ := h1
    obtain ⟨n1, q1, _, b1⟩ := DataW.trod_int (by kernel_rfl) e1
    obtain rfl : v1 = .int .i64 n1 := by simpa using q1
    have h2 := (hf 2 _ rfl).trans (List.getElem?_eq_getElem (by omega))
    have e2 : DataW.trod enc Try.prog w 0 (fun _ => true) true k _ [v2] = some _ := h2
    obtain ⟨n2, q2, _⟩ := DataW.trod_bool (by kernel_rfl) e2
    obtain rfl : v2 = .bool n2 := by simpa using q2
    have h3 := (hf 3 _ rfl).trans (List.getElem?_eq_getElem (by omega))
    have e3 : DataW.trod enc Try.prog w 0 (fun _ => true) true k _ [v3] = some _ := h3
    obtain ⟨n3, q3, _, b3⟩ := DataW.trod_string (by kernel_rfl) e3
    obtain rfl : v3 = .string n3 := by simpa using q3
    exact ⟨⟨n0, n1, n2, n3⟩, rfl, i64_of_wf b0, i64_of_wf b1, b3⟩

/-! ### qanat/api.Op -/
structure Opr where
  lsn : Int
  table : Int
  key : Int
  gone : Bool
  val : ByteArray

instance : Inhabited Opr := ⟨⟨0, 0, 0, false, ByteArray.empty⟩⟩
def Opr.cells (x : Opr) : List Value := [.int .i64 x.lsn, .int .i64 x.table, .int .i64 x.key, .bool x.gone, .string x.val]
def Opr.wf (x : Opr) : Prop := I64 x.lsn ∧ I64 x.table ∧ I64 x.key ∧ x.val.size ≤ maxLen
def oprRep : Rep Opr := Rep.flat 5 (by omega) Opr.cells Opr.wf (fun _ => rfl) (by
  intro a u hu
  simp only [Opr.cells, List.mem_cons, List.not_mem_nil, or_false] at hu
  rcases hu with rfl | rfl | rfl | rfl | rfl <;> rfl)
theorem flat_opr : Flat oprRep := fun _ _ _ _ _ _ h => h

set_option maxRecDepth 100000 in
theorem opens_opr {H : Type} {enc : TypeId × Value → H} {w : World} : Opens enc Try.prog w 71 oprRep := by
  intro fuel cs x h
  obtain ⟨xs, k, _, _, hlen, hxl, hf⟩ := DataW.trod_struct Try.underlying71 h
  rw [show Try.prog.cellsOf 71 = 5 from by kernel_rfl] at hlen
  match cs, hlen with
  | [v0, v1, v2, v3, v4], _ =>
    have hx : xs.length = 5 := hxl
    have h0 := (hf 0 _ rfl).trans (List.getElem?_eq_getElem (by omega))
    have e0 : DataW.trod enc Try.prog w 0 (fun _ => true) true k _ [v0] = some _ := h0
    obtain ⟨n0, q0, _, b0⟩ := DataW.trod_int (by kernel_rfl) e0
    obtain rfl : v0 = .int .i64 n0 := by simpa using q0
    have h1 := (hf 1 _ rfl).trans (List.getElem?_eq_getElem (by omega))
    have e1 : DataW.trod enc Try.prog w 0 (fun _ => true) true k _ [v1] = some _ := h1
    obtain ⟨n1, q1, _, b1⟩ := DataW.trod_int (by kernel_rfl) e1
    obtain rfl : v1 = .int .i64 n1 := by simpa using q1
    have h2 := (hf 2 _ rfl).trans (List.getElem?_eq_getElem (by omega))
    have e2 : DataW.trod enc Try.prog w 0 (fun _ => true) true k _ [v2] = some _ := h2
    obtain ⟨n2, q2, _, b2⟩ := DataW.trod_int (by kernel_rfl) e2
    obtain rfl : v2 = .int .i64 n2 := by simpa using q2
    have h3 := (hf 3 _ rfl).trans (List.getElem?_eq_getElem (by omega))
    have e3 : DataW.trod enc Try.prog w 0 (fun _ => true) true k _ [v3] = some _ := h3
    obtain ⟨n3, q3, _⟩ := DataW.trod_bool (by kernel_rfl) e3
    obtain rfl : v3 = .bool n3 := by simpa using q3
    have h4 := (hf 4 _ rfl).trans (List.getElem?_eq_getElem (by omega))
    have e4 : DataW.trod enc Try.prog w 0 (fun _ => true) true k _ [v4] = some _ := h4
    obtain ⟨n4, q4, _, b4⟩ := DataW.trod_string (by kernel_rfl) e4
    obtain rfl : v4 = .string n4 := by simpa using q4
    exact ⟨⟨n0, n1, n2, n3, n4⟩, rfl, i64_of_wf b0, i64_of_wf b1, i64_of_wf b2, b4⟩

/-! ### qanat/api.Note -/
structure Note where
  kind : Int
  id : Int
  table : Int
  weight : Int
  at_ : Int
  cursor : Int
  done : Bool

instance : Inhabited Note := ⟨⟨0, 0, 0, 0, 0, 0, false⟩⟩
def Note.cells (x : Note) : List Value := [.int .i64 x.kind, .int .i64 x.id, .int .i64 x.table, .int .i64 x.weight, .int .i64 x.at_, .int .i64 x.cursor, .bool x.done]
def Note.wf (x : Note) : Prop := I64 x.kind ∧ I64 x.id ∧ I64 x.table ∧ I64 x.weight ∧ I64 x.at_ ∧ I64 x.cursor
def noteRep : Rep Note := Rep.flat 7 (by omega) Note.cells Note.wf (fun _ => rfl) (by
  intro a u hu
  simp only [Note.cells, List.mem_cons, List.not_mem_nil, or_false] at hu
  rcases hu with rfl | rfl | rfl | rfl | rfl | rfl | rfl <;> rfl)
theorem flat_note : Flat noteRep := fun _ _ _ _ _ _ h => h

set_option maxRecDepth 100000 in
theorem opens_note {H : Type} {enc : TypeId × Value → H} {w : World} : Opens enc Try.prog w 91 noteRep := by
  intro fuel cs x h
  obtain ⟨xs, k, _, _, hlen, hxl, hf⟩ := DataW.trod_struct Try.underlying91 h
  rw [show Try.prog.cellsOf 91 = 7 from by kernel_rfl] at hlen
  match cs, hlen with
  | [v0, v1, v2, v3, v4, v5, v6], _ =>
    have hx : xs.length = 7 := hxl
    have h0 := (hf 0 _ rfl).trans (List.getElem?_eq_getElem (by omega))
    have e0 : DataW.trod enc Try.prog w 0 (fun _ => true) true k _ [v0] = some _ := h0
    obtain ⟨n0, q0, _, b0⟩ := DataW.trod_int (by kernel_rfl) e0
    obtain rfl : v0 = .int .i64 n0 := by simpa using q0
    have h1 := (hf 1 _ rfl).trans (List.getElem?_eq_getElem (by omega))
    have e1 : DataW.trod enc Try.prog w 0 (fun _ => true) true k _ [v1] = some _ := h1
    obtain ⟨n1, q1, _, b1⟩ := DataW.trod_int (by kernel_rfl) e1
    obtain rfl : v1 = .int .i64 n1 := by simpa using q1
    have h2 := (hf 2 _ rfl).trans (List.getElem?_eq_getElem (by omega))
    have e2 : DataW.trod enc Try.prog w 0 (fun _ => true) true k _ [v2] = some _ := h2
    obtain ⟨n2, q2, _, b2⟩ := DataW.trod_int (by kernel_rfl) e2
    obtain rfl : v2 = .int .i64 n2 := by simpa using q2
    have h3 := (hf 3 _ rfl).trans (List.getElem?_eq_getElem (by omega))
    have e3 : DataW.trod enc Try.prog w 0 (fun _ => true) true k _ [v3] = some _ := h3
    obtain ⟨n3, q3, _, b3⟩ := DataW.trod_int (by kernel_rfl) e3
    obtain rfl : v3 = .int .i64 n3 := by simpa using q3
    have h4 := (hf 4 _ rfl).trans (List.getElem?_eq_getElem (by omega))
    have e4 : DataW.trod enc Try.prog w 0 (fun _ => true) true k _ [v4] = some _ := h4
    obtain ⟨n4, q4, _, b4⟩ := DataW.trod_int (by kernel_rfl) e4
    obtain rfl : v4 = .int .i64 n4 := by simpa using q4
    have h5 := (hf 5 _ rfl).trans (List.getElem?_eq_getElem (by omega))
    have e5 : DataW.trod enc Try.prog w 0 (fun _ => true) true k _ [v5] = some _ := h5
    obtain ⟨n5, q5, _, b5⟩ := DataW.trod_int (by kernel_rfl) e5
    obtain rfl : v5 = .int .i64 n5 := by simpa using q5
    have h6 := (hf 6 _ rfl).trans (List.getElem?_eq_getElem (by omega))
    have e6 : DataW.trod enc Try.prog w 0 (fun _ => true) true k _ [v6] = some _ := h6
    obtain ⟨n6, q6, _⟩ := DataW.trod_bool (by kernel_rfl) e6
    obtain rfl : v6 = .bool n6 := by simpa using q6
    exact ⟨⟨n0, n1, n2, n3, n4, n5, n6⟩, rfl, i64_of_wf b0, i64_of_wf b1, i64_of_wf b2, i64_of_wf b3, i64_of_wf b4, i64_of_wf b5⟩

/-! ### qanat/api.Item -/
structure Item where
  lsn : Int
  ops : List Opr
  notes : List Note

instance : Inhabited Item := ⟨⟨0, [], []⟩⟩
def Item.lies (w : World) (S : Nat → Prop) (x : Item) (cs : List Value) : Prop := ∃ c1 c2 : Value, cs = [.int .i64 x.lsn, c1, c2] ∧ I64 x.lsn ∧ (sliceRep oprRep).rel w S x.ops [c1] ∧ (sliceRep noteRep).rel w S x.notes [c2]
def itemRep : Rep Item where
  size := 3
  pos := by omega
  rel := Item.lies
  len := by rintro w S a cs ⟨c1, c2, rfl, w0, l0, l1⟩; rfl
  one := by
    rintro w S a cs ⟨c1, c2, rfl, w0, l0, l1⟩ u hu
    have k0 := (sliceRep oprRep).one l0 c1 (by simp)
    have k1 := (sliceRep noteRep).one l1 c2 (by simp)
    simp only [List.mem_cons, List.not_mem_nil, or_false] at hu
    rcases hu with rfl | rfl | rfl <;> first | rfl | assumption
  keep := by rintro w w' S a cs ⟨c1, c2, rfl, w0, l0, l1⟩ hk; exact ⟨c1, c2, rfl, w0, (sliceRep oprRep).keep l0 hk, (sliceRep noteRep).keep l1 hk⟩
  weak := by rintro w S S' a cs ⟨c1, c2, rfl, w0, l0, l1⟩ hk; exact ⟨c1, c2, rfl, w0, (sliceRep oprRep).weak l0 hk, (sliceRep noteRep).weak l1 hk⟩

set_option maxRecDepth 100000 in
theorem opens_item {H : Type} {enc : TypeId × Value → H} {w : World} (o1 : Opens enc Try.prog w 59 (sliceRep oprRep)) (o2 : Opens enc Try.prog w 60 (sliceRep noteRep)) : Opens enc Try.prog w 62 itemRep := by
  intro fuel cs x h
  obtain ⟨xs, k, _, _, hlen, hxl, hf⟩ := DataW.trod_struct Try.underlying62 h
  rw [show Try.prog.cellsOf 62 = 3 from by kernel_rfl] at hlen
  match cs, hlen with
  | [v0, v1, v2], _ =>
    have hx : xs.length = 3 := hxl
    have h0 := (hf 0 _ rfl).trans (List.getElem?_eq_getElem (by omega))
    have e0 : DataW.trod enc Try.prog w 0 (fun _ => true) true k _ [v0] = some _ := h0
    obtain ⟨n0, q0, _, b0⟩ := DataW.trod_int (by kernel_rfl) e0
    obtain rfl : v0 = .int .i64 n0 := by simpa using q0
    have h1 := (hf 1 _ rfl).trans (List.getElem?_eq_getElem (by omega))
    have e1 : DataW.trod enc Try.prog w 0 (fun _ => true) true k _ [v1] = some _ := h1
    obtain ⟨n1, b1⟩ := o1 _ _ _ e1
    have h2 := (hf 2 _ rfl).trans (List.getElem?_eq_getElem (by omega))
    have e2 : DataW.trod enc Try.prog w 0 (fun _ => true) true k _ [v2] = some _ := h2
    obtain ⟨n2, b2⟩ := o2 _ _ _ e2
    exact ⟨⟨n0, n1, n2⟩, v1, v2, rfl, i64_of_wf b0, b1, b2⟩

/-! ### qanat/api.Txn -/
structure Txn where
  lsn : Int
  kind : Int
  changes : List Chg
  signals : List ByteArray
  mark : Int

instance : Inhabited Txn := ⟨⟨0, 0, [], [], 0⟩⟩
def Txn.lies (w : World) (S : Nat → Prop) (x : Txn) (cs : List Value) : Prop := ∃ c2 c3 : Value, cs = [.int .i64 x.lsn, .int .i64 x.kind, c2, c3, .int .i64 x.mark] ∧ I64 x.lsn ∧ I64 x.kind ∧ I64 x.mark ∧ (sliceRep chgRep).rel w S x.changes [c2] ∧ (sliceRep strRep).rel w S x.signals [c3]
def txnRep : Rep Txn where
  size := 5
  pos := by omega
  rel := Txn.lies
  len := by rintro w S a cs ⟨c2, c3, rfl, w0, w1, w2, l0, l1⟩; rfl
  one := by
    rintro w S a cs ⟨c2, c3, rfl, w0, w1, w2, l0, l1⟩ u hu
    have k0 := (sliceRep chgRep).one l0 c2 (by simp)
    have k1 := (sliceRep strRep).one l1 c3 (by simp)
    simp only [List.mem_cons, List.not_mem_nil, or_false] at hu
    rcases hu with rfl | rfl | rfl | rfl | rfl <;> first | rfl | assumption
  keep := by rintro w w' S a cs ⟨c2, c3, rfl, w0, w1, w2, l0, l1⟩ hk; exact ⟨c2, c3, rfl, w0, w1, w2, (sliceRep chgRep).keep l0 hk, (sliceRep strRep).keep l1 hk⟩
  weak := by rintro w S S' a cs ⟨c2, c3, rfl, w0, w1, w2, l0, l1⟩ hk; exact ⟨c2, c3, rfl, w0, w1, w2, (sliceRep chgRep).weak l0 hk, (sliceRep strRep).weak l1 hk⟩

set_option maxRecDepth 100000 in
theorem opens_txn {H : Type} {enc : TypeId × Value → H} {w : World} (o2 : Opens enc Try.prog w 65 (sliceRep chgRep)) (o3 : Opens enc Try.prog w 66 (sliceRep strRep)) : Opens enc Try.prog w 68 txnRep := by
  intro fuel cs x h
  obtain ⟨xs, k, _, _, hlen, hxl, hf⟩ := DataW.trod_struct Try.underlying68 h
  rw [show Try.prog.cellsOf 68 = 5 from by kernel_rfl] at hlen
  match cs, hlen with
  | [v0, v1, v2, v3, v4], _ =>
    have hx : xs.length = 5 := hxl
    have h0 := (hf 0 _ rfl).trans (List.getElem?_eq_getElem (by omega))
    have e0 : DataW.trod enc Try.prog w 0 (fun _ => true) true k _ [v0] = some _ := h0
    obtain ⟨n0, q0, _, b0⟩ := DataW.trod_int (by kernel_rfl) e0
    obtain rfl : v0 = .int .i64 n0 := by simpa using q0
    have h1 := (hf 1 _ rfl).trans (List.getElem?_eq_getElem (by omega))
    have e1 : DataW.trod enc Try.prog w 0 (fun _ => true) true k _ [v1] = some _ := h1
    obtain ⟨n1, q1, _, b1⟩ := DataW.trod_int (by kernel_rfl) e1
    obtain rfl : v1 = .int .i64 n1 := by simpa using q1
    have h2 := (hf 2 _ rfl).trans (List.getElem?_eq_getElem (by omega))
    have e2 : DataW.trod enc Try.prog w 0 (fun _ => true) true k _ [v2] = some _ := h2
    obtain ⟨n2, b2⟩ := o2 _ _ _ e2
    have h3 := (hf 3 _ rfl).trans (List.getElem?_eq_getElem (by omega))
    have e3 : DataW.trod enc Try.prog w 0 (fun _ => true) true k _ [v3] = some _ := h3
    obtain ⟨n3, b3⟩ := o3 _ _ _ e3
    have h4 := (hf 4 _ rfl).trans (List.getElem?_eq_getElem (by omega))
    have e4 : DataW.trod enc Try.prog w 0 (fun _ => true) true k _ [v4] = some _ := h4
    obtain ⟨n4, q4, _, b4⟩ := DataW.trod_int (by kernel_rfl) e4
    obtain rfl : v4 = .int .i64 n4 := by simpa using q4
    exact ⟨⟨n0, n1, n2, n3, n4⟩, v2, v3, rfl, i64_of_wf b0, i64_of_wf b1, i64_of_wf b4, b2, b3⟩

/-! ### qanat/api.Req -/
structure Req where
  id : Int
  table : Int
  weight : Int
  at_ : Int
  cursor : Int
  chunks : Int
  done : Bool

instance : Inhabited Req := ⟨⟨0, 0, 0, 0, 0, 0, false⟩⟩
def Req.cells (x : Req) : List Value := [.int .i64 x.id, .int .i64 x.table, .int .i64 x.weight, .int .i64 x.at_, .int .i64 x.cursor, .int .i64 x.chunks, .bool x.done]
def Req.wf (x : Req) : Prop := I64 x.id ∧ I64 x.table ∧ I64 x.weight ∧ I64 x.at_ ∧ I64 x.cursor ∧ I64 x.chunks
def reqRep : Rep Req := Rep.flat 7 (by omega) Req.cells Req.wf (fun _ => rfl) (by
  intro a u hu
  simp only [Req.cells, List.mem_cons, List.not_mem_nil, or_false] at hu
  rcases hu with rfl | rfl | rfl | rfl | rfl | rfl | rfl <;> rfl)
theorem flat_req : Flat reqRep := fun _ _ _ _ _ _ h => h

set_option maxRecDepth 100000 in
theorem opens_req {H : Type} {enc : TypeId × Value → H} {w : World} : Opens enc Try.prog w 94 reqRep := by
  intro fuel cs x h
  obtain ⟨xs, k, _, _, hlen, hxl, hf⟩ := DataW.trod_struct Try.underlying94 h
  rw [show Try.prog.cellsOf 94 = 7 from by kernel_rfl] at hlen
  match cs, hlen with
  | [v0, v1, v2, v3, v4, v5, v6], _ =>
    have hx : xs.length = 7 := hxl
    have h0 := (hf 0 _ rfl).trans (List.getElem?_eq_getElem (by omega))
    have e0 : DataW.trod enc Try.prog w 0 (fun _ => true) true k _ [v0] = some _ := h0
    obtain ⟨n0, q0, _, b0⟩ := DataW.trod_int (by kernel_rfl) e0
    obtain rfl : v0 = .int .i64 n0 := by simpa using q0
    have h1 := (hf 1 _ rfl).trans (List.getElem?_eq_getElem (by omega))
    have e1 : DataW.trod enc Try.prog w 0 (fun _ => true) true k _ [v1] = some _ := h1
    obtain ⟨n1, q1, _, b1⟩ := DataW.trod_int (by kernel_rfl) e1
    obtain rfl : v1 = .int .i64 n1 := by simpa using q1
    have h2 := (hf 2 _ rfl).trans (List.getElem?_eq_getElem (by omega))
    have e2 : DataW.trod enc Try.prog w 0 (fun _ => true) true k _ [v2] = some _ := h2
    obtain ⟨n2, q2, _, b2⟩ := DataW.trod_int (by kernel_rfl) e2
    obtain rfl : v2 = .int .i64 n2 := by simpa using q2
    have h3 := (hf 3 _ rfl).trans (List.getElem?_eq_getElem (by omega))
    have e3 : DataW.trod enc Try.prog w 0 (fun _ => true) true k _ [v3] = some _ := h3
    obtain ⟨n3, q3, _, b3⟩ := DataW.trod_int (by kernel_rfl) e3
    obtain rfl : v3 = .int .i64 n3 := by simpa using q3
    have h4 := (hf 4 _ rfl).trans (List.getElem?_eq_getElem (by omega))
    have e4 : DataW.trod enc Try.prog w 0 (fun _ => true) true k _ [v4] = some _ := h4
    obtain ⟨n4, q4, _, b4⟩ := DataW.trod_int (by kernel_rfl) e4
    obtain rfl : v4 = .int .i64 n4 := by simpa using q4
    have h5 := (hf 5 _ rfl).trans (List.getElem?_eq_getElem (by omega))
    have e5 : DataW.trod enc Try.prog w 0 (fun _ => true) true k _ [v5] = some _ := h5
    obtain ⟨n5, q5, _, b5⟩ := DataW.trod_int (by kernel_rfl) e5
    obtain rfl : v5 = .int .i64 n5 := by simpa using q5
    have h6 := (hf 6 _ rfl).trans (List.getElem?_eq_getElem (by omega))
    have e6 : DataW.trod enc Try.prog w 0 (fun _ => true) true k _ [v6] = some _ := h6
    obtain ⟨n6, q6, _⟩ := DataW.trod_bool (by kernel_rfl) e6
    obtain rfl : v6 = .bool n6 := by simpa using q6
    exact ⟨⟨n0, n1, n2, n3, n4, n5, n6⟩, rfl, i64_of_wf b0, i64_of_wf b1, i64_of_wf b2, i64_of_wf b3, i64_of_wf b4, i64_of_wf b5⟩

/-! ### qanat/api.Signal -/
structure Sig where
  table : Int
  weight : Int

instance : Inhabited Sig := ⟨⟨0, 0⟩⟩
def Sig.cells (x : Sig) : List Value := [.int .i64 x.table, .int .i64 x.weight]
def Sig.wf (x : Sig) : Prop := I64 x.table ∧ I64 x.weight
def sigRep : Rep Sig := Rep.flat 2 (by omega) Sig.cells Sig.wf (fun _ => rfl) (by
  intro a u hu
  simp only [Sig.cells, List.mem_cons, List.not_mem_nil, or_false] at hu
  rcases hu with rfl | rfl <;> rfl)
theorem flat_sig : Flat sigRep := fun _ _ _ _ _ _ h => h

set_option maxRecDepth 100000 in
theorem opens_sig {H : Type} {enc : TypeId × Value → H} {w : World} : Opens enc Try.prog w 74 sigRep := by
  intro fuel cs x h
  obtain ⟨xs, k, _, _, hlen, hxl, hf⟩ := DataW.trod_struct Try.underlying74 h
  rw [show Try.prog.cellsOf 74 = 2 from by kernel_rfl] at hlen
  match cs, hlen with
  | [v0, v1], _ =>
    have hx : xs.length = 2 := hxl
    have h0 := (hf 0 _ rfl).trans (List.getElem?_eq_getElem (by omega))
    have e0 : DataW.trod enc Try.prog w 0 (fun _ => true) true k _ [v0] = some _ := h0
    obtain ⟨n0, q0, _, b0⟩ := DataW.trod_int (by kernel_rfl) e0
    obtain rfl : v0 = .int .i64 n0 := by simpa using q0
    have h1 := (hf 1 _ rfl).trans (List.getElem?_eq_getElem (by omega))
    have e1 : DataW.trod enc Try.prog w 0 (fun _ => true) true k _ [v1] = some _ := h1
    obtain ⟨n1, q1, _, b1⟩ := DataW.trod_int (by kernel_rfl) e1
    obtain rfl : v1 = .int .i64 n1 := by simpa using q1
    exact ⟨⟨n0, n1⟩, rfl, i64_of_wf b0, i64_of_wf b1⟩

end Go.Proofs.Ythhpddiicnjmmaa
