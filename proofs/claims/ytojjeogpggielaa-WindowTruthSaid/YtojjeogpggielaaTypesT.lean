/- Struct types of the program as Lean structures: how they lie in cells, and how readings are opened into them. Written by gen_types.py. -/
import Derived.Test.YtojjeogpggielaaPlain
namespace Go.Proofs.Ytojjeogpggielaa
open Go.ChangeShapes Go.WideShapes Go.ChangeAt Go.RowKit Go.Deep

/-! ### qanat/api.Row -/
structure Row where
  key : Int
  val : ByteArray

instance : Inhabited Row := ⟨⟨0, ByteArray.empty⟩⟩
def Row.cells (x : Row) : List Value := [.int .i64 x.key, .string x.val]
def Row.wf (x : Row) : Prop := I64 x.key ∧ x.val.size ≤ maxLen
def rowRep : Rep Row := Rep.flat 2 (by omega) Row.cells Row.wf (fun _ => rfl) (by
  intro a u hu
  simp only [Row.cells, List.mem_cons, List.not_mem_nil, or_false] at hu
  rcases hu with rfl | rfl <;> rfl)
theorem flat_row : Flat rowRep := fun _ _ _ _ _ _ h => h

set_option maxRecDepth 100000 in
theorem opens_row {H : Type} {enc : TypeId × Value → H} {w : World} : Opens enc Try.prog w 55 rowRep := by
  intro fuel cs x h
  obtain ⟨xs, k, _, _, hlen, hxl, hf⟩ := DataW.trod_struct Try.underlying55 h
  rw [show Try.prog.cellsOf 55 = 2 from by kernel_rfl] at hlen
  match cs, hlen with
  | [v0, v1], _ =>
    have hx : xs.length = 2 := hxl
    have h0 := (hf 0 _ rfl).trans (List.getElem?_eq_getElem (by omega))
    have e0 : DataW.trod enc Try.prog w 0 (fun _ => true) true k _ [v0] = some _ := h0
    obtain ⟨n0, q0, _, b0⟩ := DataW.trod_int (by kernel_rfl) e0
    obtain rfl : v0 = .int .i64 n0 := by simpa using q0
    have h1 := (hf 1 _ rfl).trans (List.getElem?_eq_getElem (by omega))
    have e1 : DataW.trod enc Try.prog w 0 (fun _ => true) true k _ [v1] = some _ := h1
    obtain ⟨n1, q1, _, b1⟩ := DataW.trod_string (by kernel_rfl) e1
    obtain rfl : v1 = .string n1 := by simpa using q1
    exact ⟨⟨n0, n1⟩, rfl, i64_of_wf b0, b1⟩

/-! ### qanat/api.Change -/
structure Chg where
  table : Int
  key : Int
  gone : Bool
  val : ByteArray

instance : Inhabited Chg := ⟨⟨0, 0, false, ByteArray.empty⟩⟩
def Chg.cells (x : Chg) : List Value := [.int .i64 x.table, .int .i64 x.key, .bool x.gone, .string x.val]
def Chg.wf (x : Chg) : Prop := I64 x.table ∧ I64 x.key ∧ x.val.size ≤ maxLen
def chgRep : Rep Chg := Rep.flat 4 (by omega) Chg.cells Chg.wf (fun _ => rfl) (by
  intro a u hu
  simp only [Chg.cells, List.mem_cons, List.not_mem_nil, or_false] at hu
  rcases hu with rfl | rfl | rfl | rfl <;> rfl)
theorem flat_chg : Flat chgRep := fun _ _ _ _ _ _ h => h

set_option maxRecDepth 100000 in
theorem opens_chg {H : Type} {enc : TypeId × Value → H} {w : World} : Opens enc Try.prog w 53 chgRep := by
  intro fuel cs x h
  obtain ⟨xs, k, _, _, hlen, hxl, hf⟩ := DataW.trod_struct Try.underlying53 h
  rw [show Try.prog.cellsOf 53 = 4 from by kernel_rfl] at hlen
  match cs, hlen with
  | [v0, v1, v2, v3], _ =>
    have hx : xs.length = 4 := hxl
    have h0 := (hf 0 _ rfl).trans (List.getElem?_eq_getElem (by omega))
    have e0 : DataW.trod enc Try.prog w 0 (fun _ => true) true k _ [v0] = some _ := h0
    obtain ⟨n0, q0, _, b0⟩ := DataW.trod_int (by kernel_rfl) e0
    obtain rfl : v0 = .int .i64 n0 := by simpa using q0
    have h1 := (hf 1 _ rfl).trans (List.getElem?_eq_getElem (by omega))
    have e1 : DataW.trod enc Try.prog w 0 (fun _ => true) true k _ [v1] = some _ := h1
    obtain ⟨n1, q1, _, b1⟩ := DataW.trod_int (by kernel_rfl) e1
    obtain rfl : v1 = .int .i64 n1 := by simpa using q1
    have h2 := (hf 2 _ rfl).trans (List.getElem?_eq_getElem (by omega))
    have e2 : DataW.trod enc Try.prog w 0 (fun _ => true) true k _ [v2] = some _ := h2
    obtain ⟨n2, q2, _⟩ := DataW.trod_bool (by kernel_rfl) e2
    obtain rfl : v2 = .bool n2 := by simpa using q2
    have h3 := (hf 3 _ rfl).trans (List.getElem?_eq_getElem (by omega))
    have e3 : DataW.trod enc Try.prog w 0 (fun _ => true) true k _ [v3] = some _ := h3
    obtain ⟨n3, q3, _, b3⟩ := DataW.trod_string (by kernel_rfl) e3
    obtain rfl : v3 = .string n3 := by simpa using q3
    exact ⟨⟨n0, n1, n2, n3⟩, rfl, i64_of_wf b0, i64_of_wf b1, b3⟩

/-! ### qanat/api.Op -/
structure Opr where
  lsn : Int
  table : Int
  key : Int
  gone : Bool
  val : ByteArray

instance : Inhabited Opr := ⟨⟨0, 0, 0, false, ByteArray.empty⟩⟩
def Opr.cells (x : Opr) : List Value := [.int .i64 x.lsn, .int .i64 x.table, .int .i64 x.key, .bool x.gone, .string x.val]
def Opr.wf (x : Opr) : Prop := I64 x.lsn ∧ I64 x.table ∧ I64 x.key ∧ x.val.size ≤ maxLen
def oprRep : Rep Opr := Rep.flat 5 (by omega) Opr.cells Opr.wf (fun _ => rfl) (by
  intro a u hu
  simp only [Opr.cells, List.mem_cons, List.not_mem_nil, or_false] at hu
  rcases hu with rfl | rfl | rfl | rfl | rfl <;> rfl)
theorem flat_opr : Flat oprRep := fun _ _ _ _ _ _ h => h

set_option maxRecDepth 100000 in
theorem opens_opr {H : Type} {enc : TypeId × Value → H} {w : World} : Opens enc Try.prog w 51 oprRep := by
  intro fuel cs x h
  obtain ⟨xs, k, _, _, hlen, hxl, hf⟩ := DataW.trod_struct Try.underlying51 h
  rw [show Try.prog.cellsOf 51 = 5 from by kernel_rfl] at hlen
  match cs, hlen with
  | [v0, v1, v2, v3, v4], _ =>
    have hx : xs.length = 5 := hxl
    have h0 := (hf 0 _ rfl).trans (List.getElem?_eq_getElem (by omega))
    have e0 : DataW.trod enc Try.prog w 0 (fun _ => true) true k _ [v0] = some _ := h0
    obtain ⟨n0, q0, _, b0⟩ := DataW.trod_int (by kernel_rfl) e0
    obtain rfl : v0 = .int .i64 n0 := by simpa using q0
    have h1 := (hf 1 _ rfl).trans (List.getElem?_eq_getElem (by omega))
    have e1 : DataW.trod enc Try.prog w 0 (fun _ => true) true k _ [v1] = some _ := h1
    obtain ⟨n1, q1, _, b1⟩ := DataW.trod_int (by kernel_rfl) e1
    obtain rfl : v1 = .int .i64 n1 := by simpa using q1
    have h2 := (hf 2 _ rfl).trans (List.getElem?_eq_getElem (by omega))
    have e2 : DataW.trod enc Try.prog w 0 (fun _ => true) true k _ [v2] = some _ := h2
    obtain ⟨n2, q2, _, b2⟩ := DataW.trod_int (by kernel_rfl) e2
    obtain rfl : v2 = .int .i64 n2 := by simpa using q2
    have h3 := (hf 3 _ rfl).trans (List.getElem?_eq_getElem (by omega))
    have e3 : DataW.trod enc Try.prog w 0 (fun _ => true) true k _ [v3] = some _ := h3
    obtain ⟨n3, q3, _⟩ := DataW.trod_bool (by kernel_rfl) e3
    obtain rfl : v3 = .bool n3 := by simpa using q3
    have h4 := (hf 4 _ rfl).trans (List.getElem?_eq_getElem (by omega))
    have e4 : DataW.trod enc Try.prog w 0 (fun _ => true) true k _ [v4] = some _ := h4
    obtain ⟨n4, q4, _, b4⟩ := DataW.trod_string (by kernel_rfl) e4
    obtain rfl : v4 = .string n4 := by simpa using q4
    exact ⟨⟨n0, n1, n2, n3, n4⟩, rfl, i64_of_wf b0, i64_of_wf b1, i64_of_wf b2, b4⟩

/-! ### qanat/api.Txn -/
structure Txn where
  lsn : Int
  kind : Int
  changes : List Chg
  signals : List ByteArray
  mark : Int

instance : Inhabited Txn := ⟨⟨0, 0, [], [], 0⟩⟩
def Txn.lies (w : World) (S : Nat → Prop) (x : Txn) (cs : List Value) : Prop := ∃ c2 c3 : Value, cs = [.int .i64 x.lsn, .int .i64 x.kind, c2, c3, .int .i64 x.mark] ∧ I64 x.lsn ∧ I64 x.kind ∧ I64 x.mark ∧ (sliceRep chgRep).rel w S x.changes [c2] ∧ (sliceRep strRep).rel w S x.signals [c3]
def txnRep : Rep Txn where
  size := 5
  pos := by omega
  rel := Txn.lies
  len := by rintro w S a cs ⟨c2, c3, rfl, w0, w1, w2, l0, l1⟩; rfl
  one := by
    rintro w S a cs ⟨c2, c3, rfl, w0, w1, w2, l0, l1⟩ u hu
    have k0 := (sliceRep chgRep).one l0 c2 (by simp)
    have k1 := (sliceRep strRep).one l1 c3 (by simp)
    simp only [List.mem_cons, List.not_mem_nil, or_false] at hu
    rcases hu with rfl | rfl | rfl | rfl | rfl <;> first | rfl | assumption
  keep := by rintro w w' S a cs ⟨c2, c3, rfl, w0, w1, w2, l0, l1⟩ hk; exact ⟨c2, c3, rfl, w0, w1, w2, (sliceRep chgRep).keep l0 hk, (sliceRep strRep).keep l1 hk⟩
  weak := by rintro w S S' a cs ⟨c2, c3, rfl, w0, w1, w2, l0, l1⟩ hk; exact ⟨c2, c3, rfl, w0, w1, w2, (sliceRep chgRep).weak l0 hk, (sliceRep strRep).weak l1 hk⟩

set_option maxRecDepth 100000 in
theorem opens_txn {H : Type} {enc : TypeId × Value → H} {w : World} (o2 : Opens enc Try.prog w 22 (sliceRep chgRep)) (o3 : Opens enc Try.prog w 66 (sliceRep strRep)) : Opens enc Try.prog w 68 txnRep := by
  intro fuel cs x h
  obtain ⟨xs, k, _, _, hlen, hxl, hf⟩ := DataW.trod_struct Try.underlying68 h
  rw [show Try.prog.cellsOf 68 = 5 from by kernel_rfl] at hlen
  match cs, hlen with
  | [v0, v1, v2, v3, v4], _ =>
    have hx : xs.length = 5 := hxl
    have h0 := (hf 0 _ rfl).trans (List.getElem?_eq_getElem (by omega))
    have e0 : DataW.trod enc Try.prog w 0 (fun _ => true) true k _ [v0] = some _ := h0
    obtain ⟨n0, q0, _, b0⟩ := DataW.trod_int (by kernel_rfl) e0
    obtain rfl : v0 = .int .i64 n0 := by simpa using q0
    have h1 := (hf 1 _ rfl).trans (List.getElem?_eq_getElem (by omega))
    have e1 : DataW.trod enc Try.prog w 0 (fun _ => true) true k _ [v1] = some _ := h1
    obtain ⟨n1, q1, _, b1⟩ := DataW.trod_int (by kernel_rfl) e1
    obtain rfl : v1 = .int .i64 n1 := by simpa using q1
    have h2 := (hf 2 _ rfl).trans (List.getElem?_eq_getElem (by omega))
    have e2 : DataW.trod enc Try.prog w 0 (fun _ => true) true k _ [v2] = some _ := h2
    obtain ⟨n2, b2⟩ := o2 _ _ _ e2
    have h3 := (hf 3 _ rfl).trans (List.getElem?_eq_getElem (by omega))
    have e3 : DataW.trod enc Try.prog w 0 (fun _ => true) true k _ [v3] = some _ := h3
    obtain ⟨n3, b3⟩ := o3 _ _ _ e3
    have h4 := (hf 4 _ rfl).trans (List.getElem?_eq_getElem (by omega))
    have e4 : DataW.trod enc Try.prog w 0 (fun _ => true) true k _ [v4] = some _ := h4
    obtain ⟨n4, q4, _, b4⟩ := DataW.trod_int (by kernel_rfl) e4
    obtain rfl : v4 = .int .i64 n4 := by simpa using q4
    exact ⟨⟨n0, n1, n2, n3, n4⟩, v2, v3, rfl, i64_of_wf b0, i64_of_wf b1, i64_of_wf b4, b2, b3⟩

/-! ### qanat/qanatlaw26.Op -/
structure Op26 where
  kind : Int
  id : Int
  table : Int
  n : Int
  mark : Int
  after : Int
  rows : List Row
  changes : List Chg

instance : Inhabited Op26 := ⟨⟨0, 0, 0, 0, 0, 0, [], []⟩⟩
def Op26.lies (w : World) (S : Nat → Prop) (x : Op26) (cs : List Value) : Prop := ∃ c6 c7 : Value, cs = [.int .i64 x.kind, .int .i64 x.id, .int .i64 x.table, .int .i64 x.n, .int .i64 x.mark, .int .i64 x.after, c6, c7] ∧ I64 x.kind ∧ I64 x.id ∧ I64 x.table ∧ I64 x.n ∧ I64 x.mark ∧ I64 x.after ∧ (sliceRep rowRep).rel w S x.rows [c6] ∧ (sliceRep chgRep).rel w S x.changes [c7]
def op26Rep : Rep Op26 where
  size := 8
  pos := by omega
  rel := Op26.lies
  len := by rintro w S a cs ⟨c6, c7, rfl, w0, w1, w2, w3, w4, w5, l0, l1⟩; rfl
  one := by
    rintro w S a cs ⟨c6, c7, rfl, w0, w1, w2, w3, w4, w5, l0, l1⟩ u hu
    have k0 := (sliceRep rowRep).one l0 c6 (by simp)
    have k1 := (sliceRep chgRep).one l1 c7 (by simp)
    simp only [List.mem_cons, List.not_mem_nil, or_false] at hu
    rcases hu with rfl | rfl | rfl | rfl | rfl | rfl | rfl | rfl <;> first | rfl | assumption
  keep := by rintro w w' S a cs ⟨c6, c7, rfl, w0, w1, w2, w3, w4, w5, l0, l1⟩ hk; exact ⟨c6, c7, rfl, w0, w1, w2, w3, w4, w5, (sliceRep rowRep).keep l0 hk, (sliceRep chgRep).keep l1 hk⟩
  weak := by rintro w S S' a cs ⟨c6, c7, rfl, w0, w1, w2, w3, w4, w5, l0, l1⟩ hk; exact ⟨c6, c7, rfl, w0, w1, w2, w3, w4, w5, (sliceRep rowRep).weak l0 hk, (sliceRep chgRep).weak l1 hk⟩

set_option maxRecDepth 100000 in
theorem opens_op26 {H : Type} {enc : TypeId × Value → H} {w : World} (o6 : Opens enc Try.prog w 34 (sliceRep rowRep)) (o7 : Opens enc Try.prog w 22 (sliceRep chgRep)) : Opens enc Try.prog w 64 op26Rep := by
  intro fuel cs x h
  obtain ⟨xs, k, _, _, hlen, hxl, hf⟩ := DataW.trod_struct Try.underlying64 h
  rw [show Try.prog.cellsOf 64 = 8 from by kernel_rfl] at hlen
  match cs, hlen with
  | [v0, v1, v2, v3, v4, v5, v6, v7], _ =>
    have hx : xs.length = 8 := hxl
    have h0 := (hf 0 _ rfl).trans (List.getElem?_eq_getElem (by omega))
    have e0 : DataW.trod enc Try.prog w 0 (fun _ => true) true k _ [v0] = some _ := h0
    obtain ⟨n0, q0, _, b0⟩ := DataW.trod_int (by kernel_rfl) e0
    obtain rfl : v0 = .int .i64 n0 := by simpa using q0
    have h1 := (hf 1 _ rfl).trans (List.getElem?_eq_getElem (by omega))
    have e1 : DataW.trod enc Try.prog w 0 (fun _ => true) true k _ [v1] = some _ := h1
    obtain ⟨n1, q1, _, b1⟩ := DataW.trod_int (by kernel_rfl) e1
    obtain rfl : v1 = .int .i64 n1 := by simpa using q1
    have h2 := (hf 2 _ rfl).trans (List.getElem?_eq_getElem (by omega))
    have e2 : DataW.trod enc Try.prog w 0 (fun _ => true) true k _ [v2] = some _ := h2
    obtain ⟨n2, q2, _, b2⟩ := DataW.trod_int (by kernel_rfl) e2
    obtain rfl : v2 = .int .i64 n2 := by simpa using q2
    have h3 := (hf 3 _ rfl).trans (List.getElem?_eq_getElem (by omega))
    have e3 : DataW.trod enc Try.prog w 0 (fun _ => true) true k _ [v3] = some _ := h3
    obtain ⟨n3, q3, _, b3⟩ := DataW.trod_int (by kernel_rfl) e3
    obtain rfl : v3 = .int .i64 n3 := by simpa using q3
    have h4 := (hf 4 _ rfl).trans (List.getElem?_eq_getElem (by omega))
    have e4 : DataW.trod enc Try.prog w 0 (fun _ => true) true k _ [v4] = some _ := h4
    obtain ⟨n4, q4, _, b4⟩ := DataW.trod_int (by kernel_rfl) e4
    obtain rfl : v4 = .int .i64 n4 := by simpa using q4
    have h5 := (hf 5 _ rfl).trans (List.getElem?_eq_getElem (by omega))
    have e5 : DataW.trod enc Try.prog w 0 (fun _ => true) true k _ [v5] = some _ := h5
    obtain ⟨n5, q5, _, b5⟩ := DataW.trod_int (by kernel_rfl) e5
    obtain rfl : v5 = .int .i64 n5 := by simpa using q5
    have h6 := (hf 6 _ rfl).trans (List.getElem?_eq_getElem (by omega))
    have e6 : DataW.trod enc Try.prog w 0 (fun _ => true) true k _ [v6] = some _ := h6
    obtain ⟨n6, b6⟩ := o6 _ _ _ e6
    have h7 := (hf 7 _ rfl).trans (List.getElem?_eq_getElem (by omega))
    have e7 : DataW.trod enc Try.prog w 0 (fun _ => true) true k _ [v7] = some _ := h7
    obtain ⟨n7, b7⟩ := o7 _ _ _ e7
    exact ⟨⟨n0, n1, n2, n3, n4, n5, n6, n7⟩, v6, v7, rfl, i64_of_wf b0, i64_of_wf b1, i64_of_wf b2, i64_of_wf b3, i64_of_wf b4, i64_of_wf b5, b6, b7⟩

end Go.Proofs.Ytojjeogpggielaa
