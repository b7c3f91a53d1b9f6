/- Plain laws of items: their fields, how they are read, that both readers read the same. -/
import Derived.Test.YtcohheoahdbgmaaBat1
import Derived.Test.YtcohheoahdbgmaaRefL
set_option linter.unusedVariables false
set_option linter.unusedSimpArgs false
namespace Go.Proofs.Ytcohheoahdbgmaa
open Go.RowKit

def mayItem (x : Item) : Bool := decide (1 ≤ x.lsn ∧ x.lsn ≤ 1099511627776 ∧ x.ops.length ≤ 4096 ∧ x.notes.length ≤ 256) && (x.ops.all (mayOpr · x.lsn) && x.notes.all (mayNot · x.lsn))
def oprF (o : Opr) : List Fld := [numF o.lsn, numF o.table, numF o.key, numF (bitI o.gone), txtF o.val]
def noteF (n : Note) : List Fld := [numF n.kind, numF n.id, numF n.table, numF n.weight, numF n.at_, numF n.cursor, numF (bitI n.done)]
def fieldsI (x : Item) : List Fld := [numF x.lsn, numF x.ops.length] ++ x.ops.flatMap oprF ++ [numF x.notes.length] ++ x.notes.flatMap noteF

def rdOpr (l : List Fld) (bad : Bool) : Opr × List Fld × Bool :=
  let a := intP l bad
  let b := smallP a.2.1 a.2.2 8
  let c := intP b.2.1 b.2.2
  let d := bitP c.2.1 c.2.2
  let e := textP d.2.1 d.2.2
  (⟨a.1, b.1, c.1, d.1, e.1⟩, e.2)
def rdNote (l : List Fld) (bad : Bool) : Note × List Fld × Bool :=
  let a := smallP l bad 2
  let b := smallP a.2.1 a.2.2 64
  let c := smallP b.2.1 b.2.2 8
  let d := smallP c.2.1 c.2.2 8
  let e := intP d.2.1 d.2.2
  let f := intP e.2.1 e.2.2
  let g := bitP f.2.1 f.2.2
  (⟨a.1, b.1, c.1, d.1, e.1, f.1, g.1⟩, g.2)
def rdItem (l : List Fld) : Item × List Fld × Bool :=
  let a := intP l false
  let n := smallP a.2.1 a.2.2 4096
  let x := rdMany rdOpr n.1.toNat n.2.1 n.2.2 []
  let m := smallP x.2.1 x.2.2 256
  let y := rdMany rdNote m.1.toNat m.2.1 m.2.2 []
  (⟨a.1, x.1, y.1⟩, y.2)
def rrOpr (l : List Fld) (bad : Bool) : Opr × List Fld × Bool :=
  let a := rintP l bad 1099511627776
  let c := rrChg a.2.1 a.2.2
  (⟨a.1, c.1.table, c.1.key, c.1.gone, c.1.val⟩, c.2)
def rrNote (l : List Fld) (bad : Bool) : Note × List Fld × Bool :=
  let a := rintP l bad 2
  let b := rintP a.2.1 a.2.2 64
  let c := rintP b.2.1 b.2.2 8
  let d := rintP c.2.1 c.2.2 8
  let e := rintP d.2.1 d.2.2 1099511627776
  let f := rintP e.2.1 e.2.2 1099511627776
  let g := rflagP f.2.1 f.2.2
  (⟨a.1, b.1, c.1, d.1, e.1, f.1, g.1⟩, g.2)
def rrItem (l : List Fld) : Item × List Fld × Bool :=
  let a := rintP l false 1099511627776
  let n := rintP a.2.1 a.2.2 4096
  let x := rdMany rrOpr n.1.toNat n.2.1 n.2.2 []
  let m := rintP x.2.1 x.2.2 256
  let y := rdMany rrNote m.1.toNat m.2.1 m.2.2 []
  (⟨a.1, x.1, y.1⟩, y.2)
def item0 : Item := ⟨0, [], []⟩
def decIV := decGV rdItem mayItem item0
def decIE := decGE rdItem mayItem
def rdecIV := decGV rrItem mayItem item0
def rdecIE := decGE rrItem mayItem
def encIE := encGE fieldsI mayItem
def encIV := encGV fieldsI mayItem

theorem mayItem_parts {x : Item} (h : mayItem x = true) : 1 ≤ x.lsn ∧ x.lsn ≤ 1099511627776 ∧ x.ops.length ≤ 4096 ∧ x.notes.length ≤ 256 ∧ (∀ o ∈ x.ops, mayOpr o x.lsn = true) ∧ (∀ n ∈ x.notes, mayNot n x.lsn = true) := by
  unfold mayItem at h
  rw [Bool.and_eq_true, Bool.and_eq_true] at h
  obtain ⟨h1, h2, h3, h4⟩ := of_decide_eq_true h.1
  exact ⟨h1, h2, h3, h4, List.all_eq_true.1 h.2.1, List.all_eq_true.1 h.2.2⟩
theorem mayItem_of {x : Item} (h1 : 1 ≤ x.lsn) (h2 : x.lsn ≤ 1099511627776) (h3 : x.ops.length ≤ 4096) (h4 : x.notes.length ≤ 256) (h5 : ∀ o ∈ x.ops, mayOpr o x.lsn = true) (h6 : ∀ n ∈ x.notes, mayNot n x.lsn = true) : mayItem x = true := by
  unfold mayItem
  rw [decide_eq_true ⟨h1, h2, h3, h4⟩, List.all_eq_true.2 h5, List.all_eq_true.2 h6]
  rfl
theorem mayOpr_parts {o : Opr} {lsn : Int} (h : mayOpr o lsn = true) : 1 ≤ o.lsn ∧ o.lsn ≤ lsn ∧ 0 ≤ o.table ∧ o.table < 8 ∧ 1 ≤ o.key ∧ o.key ≤ 1099511627776 ∧ o.val.size ≤ 32 ∧ (o.gone = false ∨ o.val.size = 0) := of_decide_eq_true h
theorem mayNot_parts {n : Note} {lsn : Int} (h : mayNot n lsn = true) (hl : lsn ≤ 1099511627776) : 1 ≤ n.id ∧ n.id ≤ 64 ∧ 1 ≤ n.kind ∧ n.kind ≤ 2 ∧ 0 ≤ n.table ∧ n.table ≤ 8 ∧ 0 ≤ n.weight ∧ n.weight ≤ 8 ∧ 0 ≤ n.at_ ∧ n.at_ ≤ 1099511627776 ∧ 0 ≤ n.cursor ∧ n.cursor ≤ 1099511627776 := by
  unfold mayNot at h
  rw [Bool.and_eq_true] at h
  obtain ⟨h1, h2⟩ := of_decide_eq_true h.1
  have h := h.2
  split at h
  · obtain ⟨a, b, c, d, e, f, g, _⟩ := of_decide_eq_true h
    omega
  · split at h
    · obtain ⟨a, b, c, d, e⟩ := of_decide_eq_true h
      omega
    · cases h

theorem rdOpr_ok (l : List Fld) (bad : Bool) (h : okL l) : okL (rdOpr l bad).2.1 := textP_ok (bitP_ok (intP_ok (smallP_ok (intP_ok h _) _ _) _) _) _
theorem rdNote_ok (l : List Fld) (bad : Bool) (h : okL l) : okL (rdNote l bad).2.1 := bitP_ok (intP_ok (intP_ok (smallP_ok (smallP_ok (smallP_ok (smallP_ok h _ _) _ _) _ _) _ _) _) _) _
theorem rrOpr_ok (l : List Fld) (bad : Bool) (h : okL l) : okL (rrOpr l bad).2.1 := rrChg_ok (rintP_ok h _ _) _
theorem rrNote_ok (l : List Fld) (bad : Bool) (h : okL l) : okL (rrNote l bad).2.1 := rflagP_ok (rintP_ok (rintP_ok (rintP_ok (rintP_ok (rintP_ok (rintP_ok h _ _) _ _) _ _) _ _) _ _) _ _) _

theorem rdOpr_fwd {lsn : Int} (o : Opr) (r : List Fld) (h : mayOpr o lsn = true) : rdOpr (oprF o ++ r) false = (o, r, false) := by
  have hp := mayOpr_parts h
  unfold rdOpr oprF
  simp only [List.cons_append, List.nil_append]
  rw [intP_num]; dsimp only
  rw [smallP_num _ _ _ hp.2.2.1 (by omega)]; dsimp only
  rw [intP_num]; dsimp only
  rw [bitP_num]; dsimp only
  rw [textP_txt]
theorem rrOpr_fwd {lsn : Int} (hl : lsn ≤ 1099511627776) (o : Opr) (r : List Fld) (h : mayOpr o lsn = true) : rrOpr (oprF o ++ r) false = (o, r, false) := by
  have hp := mayOpr_parts h
  unfold rrOpr
  show (let a := rintP (numF o.lsn :: (chgF ⟨o.table, o.key, o.gone, o.val⟩ ++ r)) false 1099511627776; let c := rrChg a.2.1 a.2.2; ((⟨a.1, c.1.table, c.1.key, c.1.gone, c.1.val⟩, c.2) : Opr × List Fld × Bool)) = _
  dsimp only
  rw [rintP_num _ _ _ (by omega) (by omega)]; dsimp only
  rw [rrChg_chg (c := ⟨o.table, o.key, o.gone, o.val⟩) (decide_eq_true ⟨hp.2.2.1, hp.2.2.2.1, hp.2.2.2.2.1, hp.2.2.2.2.2.1, hp.2.2.2.2.2.2.1, hp.2.2.2.2.2.2.2⟩)]
theorem rdNote_fwd {lsn : Int} (hl : lsn ≤ 1099511627776) (n : Note) (r : List Fld) (h : mayNot n lsn = true) : rdNote (noteF n ++ r) false = (n, r, false) := by
  obtain ⟨h1, h2, h3, h4, h5, h6, h7, h8, h9, h10, h11, h12⟩ := mayNot_parts h hl
  unfold rdNote noteF
  simp only [List.cons_append, List.nil_append]
  rw [smallP_num _ _ _ (by omega) (by omega)]; dsimp only
  rw [smallP_num _ _ _ (by omega) (by omega)]; dsimp only
  rw [smallP_num _ _ _ (by omega) (by omega)]; dsimp only
  rw [smallP_num _ _ _ (by omega) (by omega)]; dsimp only
  rw [intP_num]; dsimp only
  rw [intP_num]; dsimp only
  rw [bitP_num]
theorem rrNote_fwd {lsn : Int} (hl : lsn ≤ 1099511627776) (n : Note) (r : List Fld) (h : mayNot n lsn = true) : rrNote (noteF n ++ r) false = (n, r, false) := by
  obtain ⟨h1, h2, h3, h4, h5, h6, h7, h8, h9, h10, h11, h12⟩ := mayNot_parts h hl
  unfold rrNote noteF
  simp only [List.cons_append, List.nil_append]
  rw [rintP_num _ _ _ (by omega) (by omega)]; dsimp only
  rw [rintP_num _ _ _ (by omega) (by omega)]; dsimp only
  rw [rintP_num _ _ _ (by omega) (by omega)]; dsimp only
  rw [rintP_num _ _ _ (by omega) (by omega)]; dsimp only
  rw [rintP_num _ _ _ (by omega) (by omega)]; dsimp only
  rw [rintP_num _ _ _ (by omega) (by omega)]; dsimp only
  rw [rflagP_num]

theorem rdOpr_inv (l : List Fld) (bad : Bool) (x : Opr) (r : List Fld) (ho : okL l) (h : rdOpr l bad = (x, r, false)) : bad = false ∧ l = oprF x ++ r := by
  unfold rdOpr at h
  obtain ⟨⟨x1, l1, b1⟩, h1⟩ : ∃ a, intP l bad = a := ⟨_, rfl⟩
  have o1 := intP_ok ho bad
  rw [h1] at h o1; dsimp only at h o1
  obtain ⟨⟨x2, l2, b2⟩, h2⟩ : ∃ a, smallP l1 b1 8 = a := ⟨_, rfl⟩
  have o2 := smallP_ok o1 b1 8
  rw [h2] at h o2; dsimp only at h o2
  obtain ⟨⟨x3, l3, b3⟩, h3⟩ : ∃ a, intP l2 b2 = a := ⟨_, rfl⟩
  have o3 := intP_ok o2 b2
  rw [h3] at h o3; dsimp only at h o3
  obtain ⟨⟨x4, l4, b4⟩, h4⟩ : ∃ a, bitP l3 b3 = a := ⟨_, rfl⟩
  have o4 := bitP_ok o3 b3
  rw [h4] at h o4; dsimp only at h o4
  obtain ⟨⟨x5, l5, b5⟩, h5⟩ : ∃ a, textP l4 b4 = a := ⟨_, rfl⟩
  rw [h5] at h; dsimp only at h
  simp only [Prod.mk.injEq] at h
  obtain ⟨rfl, rfl, rfl⟩ := h
  obtain ⟨rfl, rfl, _⟩ := textP_inv o4 h5
  obtain ⟨rfl, rfl, _⟩ := bitP_inv o3 h4
  obtain ⟨rfl, rfl, _⟩ := intP_inv o2 h3
  obtain ⟨rfl, rfl, _⟩ := smallP_inv o1 h2
  obtain ⟨rfl, rfl, _⟩ := intP_inv ho h1
  exact ⟨rfl, rfl⟩
theorem rrOpr_inv (l : List Fld) (bad : Bool) (x : Opr) (r : List Fld) (ho : okL l) (h : rrOpr l bad = (x, r, false)) : bad = false ∧ l = oprF x ++ r := by
  unfold rrOpr at h
  obtain ⟨⟨x1, l1, b1⟩, h1⟩ : ∃ a, rintP l bad 1099511627776 = a := ⟨_, rfl⟩
  have o1 := rintP_ok ho bad 1099511627776
  rw [h1] at h o1; dsimp only at h o1
  obtain ⟨⟨c, l2, b2⟩, h2⟩ : ∃ a, rrChg l1 b1 = a := ⟨_, rfl⟩
  rw [h2] at h; dsimp only at h
  simp only [Prod.mk.injEq] at h
  obtain ⟨rfl, rfl, rfl⟩ := h
  obtain ⟨rfl, rfl⟩ := rrChg_inv o1 h2
  obtain ⟨rfl, rfl, _⟩ := rintP_inv ho h1
  exact ⟨rfl, rfl⟩
theorem rdNote_inv (l : List Fld) (bad : Bool) (x : Note) (r : List Fld) (ho : okL l) (h : rdNote l bad = (x, r, false)) : bad = false ∧ l = noteF x ++ r := by
  unfold rdNote at h
  obtain ⟨⟨x1, l1, b1⟩, h1⟩ : ∃ a, smallP l bad 2 = a := ⟨_, rfl⟩
  have o1 := smallP_ok ho bad 2
  rw [h1] at h o1; dsimp only at h o1
  obtain ⟨⟨x2, l2, b2⟩, h2⟩ : ∃ a, smallP l1 b1 64 = a := ⟨_, rfl⟩
  have o2 := smallP_ok o1 b1 64
  rw [h2] at h o2; dsimp only at h o2
  obtain ⟨⟨x3, l3, b3⟩, h3⟩ : ∃ a, smallP l2 b2 8 = a := ⟨_, rfl⟩
  have o3 := smallP_ok o2 b2 8
  rw [h3] at h o3; dsimp only at h o3
  obtain ⟨⟨x4, l4, b4⟩, h4⟩ : ∃ a, smallP l3 b3 8 = a := ⟨_, rfl⟩
  have o4 := smallP_ok o3 b3 8
  rw [h4] at h o4; dsimp only at h o4
  obtain ⟨⟨x5, l5, b5⟩, h5⟩ : ∃ a, intP l4 b4 = a := ⟨_, rfl⟩
  have o5 := intP_ok o4 b4
  rw [h5] at h o5; dsimp only at h o5
  obtain ⟨⟨x6, l6, b6⟩, h6⟩ : ∃ a, intP l5 b5 = a := ⟨_, rfl⟩
  have o6 := intP_ok o5 b5
  rw [h6] at h o6; dsimp only at h o6
  obtain ⟨⟨x7, l7, b7⟩, h7⟩ : ∃ a, bitP l6 b6 = a := ⟨_, rfl⟩
  rw [h7] at h; dsimp only at h
  simp only [Prod.mk.injEq] at h
  obtain ⟨rfl, rfl, rfl⟩ := h
  obtain ⟨rfl, rfl, _⟩ := bitP_inv o6 h7
  obtain ⟨rfl, rfl, _⟩ := intP_inv o5 h6
  obtain ⟨rfl, rfl, _⟩ := intP_inv o4 h5
  obtain ⟨rfl, rfl, _⟩ := smallP_inv o3 h4
  obtain ⟨rfl, rfl, _⟩ := smallP_inv o2 h3
  obtain ⟨rfl, rfl, _⟩ := smallP_inv o1 h2
  obtain ⟨rfl, rfl, _⟩ := smallP_inv ho h1
  exact ⟨rfl, rfl⟩
theorem rrNote_inv (l : List Fld) (bad : Bool) (x : Note) (r : List Fld) (ho : okL l) (h : rrNote l bad = (x, r, false)) : bad = false ∧ l = noteF x ++ r := by
  unfold rrNote at h
  obtain ⟨⟨x1, l1, b1⟩, h1⟩ : ∃ a, rintP l bad 2 = a := ⟨_, rfl⟩
  have o1 := rintP_ok ho bad 2
  rw [h1] at h o1; dsimp only at h o1
  obtain ⟨⟨x2, l2, b2⟩, h2⟩ : ∃ a, rintP l1 b1 64 = a := ⟨_, rfl⟩
  have o2 := rintP_ok o1 b1 64
  rw [h2] at h o2; dsimp only at h o2
  obtain ⟨⟨x3, l3, b3⟩, h3⟩ : ∃ a, rintP l2 b2 8 = a := ⟨_, rfl⟩
  have o3 := rintP_ok o2 b2 8
  rw [h3] at h o3; dsimp only at h o3
  obtain ⟨⟨x4, l4, b4⟩, h4⟩ : ∃ a, rintP l3 b3 8 = a := ⟨_, rfl⟩
  have o4 := rintP_ok o3 b3 8
  rw [h4] at h o4; dsimp only at h o4
  obtain ⟨⟨x5, l5, b5⟩, h5⟩ : ∃ a, rintP l4 b4 1099511627776 = a := ⟨_, rfl⟩
  have o5 := rintP_ok o4 b4 1099511627776
  rw [h5] at h o5; dsimp only at h o5
  obtain ⟨⟨x6, l6, b6⟩, h6⟩ : ∃ a, rintP l5 b5 1099511627776 = a := ⟨_, rfl⟩
  have o6 := rintP_ok o5 b5 1099511627776
  rw [h6] at h o6; dsimp only at h o6
  obtain ⟨⟨x7, l7, b7⟩, h7⟩ : ∃ a, rflagP l6 b6 = a := ⟨_, rfl⟩
  rw [h7] at h; dsimp only at h
  simp only [Prod.mk.injEq] at h
  obtain ⟨rfl, rfl, rfl⟩ := h
  obtain ⟨rfl, rfl, _⟩ := rflagP_inv o6 h7
  obtain ⟨rfl, rfl, _⟩ := rintP_inv o5 h6
  obtain ⟨rfl, rfl, _⟩ := rintP_inv o4 h5
  obtain ⟨rfl, rfl, _⟩ := rintP_inv o3 h4
  obtain ⟨rfl, rfl, _⟩ := rintP_inv o2 h3
  obtain ⟨rfl, rfl, _⟩ := rintP_inv o1 h2
  obtain ⟨rfl, rfl, _⟩ := rintP_inv ho h1
  exact ⟨rfl, rfl⟩

theorem fieldsI_eq (x : Item) (r : List Fld) : fieldsI x ++ r = numF x.lsn :: numF x.ops.length :: (x.ops.flatMap oprF ++ (numF x.notes.length :: (x.notes.flatMap noteF ++ r))) := by
  unfold fieldsI
  simp
theorem rdItem_fwd (x : Item) (h : mayItem x = true) : rdItem (fieldsI x) = (x, [], false) := by
  obtain ⟨h1, h2, h3, h4, h5, h6⟩ := mayItem_parts h
  have e := fieldsI_eq x []
  rw [List.append_nil] at e
  rw [e]
  unfold rdItem
  rw [intP_num]; dsimp only
  rw [smallP_num _ _ _ (by omega) (by omega)]; dsimp only
  rw [Int.toNat_natCast, rdMany_fwd (fun y r hy => rdOpr_fwd y r hy) _ _ _ h5]; dsimp only
  rw [smallP_num _ _ _ (by omega) (by omega)]; dsimp only
  rw [Int.toNat_natCast, rdMany_fwd (fun y r hy => rdNote_fwd h2 y r hy) _ _ _ h6]
  simp
theorem rrItem_fwd (x : Item) (h : mayItem x = true) : rrItem (fieldsI x) = (x, [], false) := by
  obtain ⟨h1, h2, h3, h4, h5, h6⟩ := mayItem_parts h
  have e := fieldsI_eq x []
  rw [List.append_nil] at e
  rw [e]
  unfold rrItem
  rw [rintP_num _ _ _ (by omega) (by omega)]; dsimp only
  rw [rintP_num _ _ _ (by omega) (by omega)]; dsimp only
  rw [Int.toNat_natCast, rdMany_fwd (fun y r hy => rrOpr_fwd h2 y r hy) _ _ _ h5]; dsimp only
  rw [rintP_num _ _ _ (by omega) (by omega)]; dsimp only
  rw [Int.toNat_natCast, rdMany_fwd (fun y r hy => rrNote_fwd h2 y r hy) _ _ _ h6]
  simp
theorem rdItem_inv (l : List Fld) (t : Item) (ho : okL l) (h : rdItem l = (t, [], false)) : l = fieldsI t := by
  have e := fieldsI_eq t []
  rw [List.append_nil] at e
  rw [e]
  unfold rdItem at h
  obtain ⟨⟨x1, l1, b1⟩, h1⟩ : ∃ a, intP l false = a := ⟨_, rfl⟩
  have o1 := intP_ok ho false
  rw [h1] at h o1; dsimp only at h o1
  obtain ⟨⟨x2, l2, b2⟩, h2⟩ : ∃ a, smallP l1 b1 4096 = a := ⟨_, rfl⟩
  have o2 := smallP_ok o1 b1 4096
  rw [h2] at h o2; dsimp only at h o2
  obtain ⟨⟨x3, l3, b3⟩, h3⟩ : ∃ a, rdMany rdOpr x2.toNat l2 b2 [] = a := ⟨_, rfl⟩
  have o3 := rdMany_ok rdOpr_ok x2.toNat l2 b2 [] o2
  rw [h3] at h o3; dsimp only at h o3
  obtain ⟨⟨x4, l4, b4⟩, h4⟩ : ∃ a, smallP l3 b3 256 = a := ⟨_, rfl⟩
  have o4 := smallP_ok o3 b3 256
  rw [h4] at h o4; dsimp only at h o4
  obtain ⟨⟨x5, l5, b5⟩, h5⟩ : ∃ a, rdMany rdNote x4.toNat l4 b4 [] = a := ⟨_, rfl⟩
  rw [h5] at h; dsimp only at h
  simp only [Prod.mk.injEq] at h
  obtain ⟨rfl, rfl, rfl⟩ := h
  obtain ⟨rfl, m5, rfl, e5, rfl⟩ := rdMany_inv rdNote_inv rdNote_ok _ _ _ _ _ _ o4 h5
  obtain ⟨rfl, rfl, _, p4, _⟩ := smallP_inv o3 h4
  obtain ⟨rfl, m3, rfl, e3, rfl⟩ := rdMany_inv rdOpr_inv rdOpr_ok _ _ _ _ _ _ o2 h3
  obtain ⟨rfl, rfl, _, p2, _⟩ := smallP_inv o1 h2
  obtain ⟨_, rfl, _⟩ := intP_inv ho h1
  obtain rfl : x4 = (x5.length : Int) := by omega
  obtain rfl : x2 = (x3.length : Int) := by omega
  simp
theorem rrItem_inv (l : List Fld) (t : Item) (ho : okL l) (h : rrItem l = (t, [], false)) : l = fieldsI t := by
  have e := fieldsI_eq t []
  rw [List.append_nil] at e
  rw [e]
  unfold rrItem at h
  obtain ⟨⟨x1, l1, b1⟩, h1⟩ : ∃ a, rintP l false 1099511627776 = a := ⟨_, rfl⟩
  have o1 := rintP_ok ho false 1099511627776
  rw [h1] at h o1; dsimp only at h o1
  obtain ⟨⟨x2, l2, b2⟩, h2⟩ : ∃ a, rintP l1 b1 4096 = a := ⟨_, rfl⟩
  have o2 := rintP_ok o1 b1 4096
  rw [h2] at h o2; dsimp only at h o2
  obtain ⟨⟨x3, l3, b3⟩, h3⟩ : ∃ a, rdMany rrOpr x2.toNat l2 b2 [] = a := ⟨_, rfl⟩
  have o3 := rdMany_ok rrOpr_ok x2.toNat l2 b2 [] o2
  rw [h3] at h o3; dsimp only at h o3
  obtain ⟨⟨x4, l4, b4⟩, h4⟩ : ∃ a, rintP l3 b3 256 = a := ⟨_, rfl⟩
  have o4 := rintP_ok o3 b3 256
  rw [h4] at h o4; dsimp only at h o4
  obtain ⟨⟨x5, l5, b5⟩, h5⟩ : ∃ a, rdMany rrNote x4.toNat l4 b4 [] = a := ⟨_, rfl⟩
  rw [h5] at h; dsimp only at h
  simp only [Prod.mk.injEq] at h
  obtain ⟨rfl, rfl, rfl⟩ := h
  obtain ⟨rfl, m5, rfl, e5, rfl⟩ := rdMany_inv rrNote_inv rrNote_ok _ _ _ _ _ _ o4 h5
  obtain ⟨rfl, rfl, _, p4, _⟩ := rintP_inv o3 h4
  obtain ⟨rfl, m3, rfl, e3, rfl⟩ := rdMany_inv rrOpr_inv rrOpr_ok _ _ _ _ _ _ o2 h3
  obtain ⟨rfl, rfl, _, p2, _⟩ := rintP_inv o1 h2
  obtain ⟨_, rfl, _⟩ := rintP_inv ho h1
  obtain rfl : x4 = (x5.length : Int) := by omega
  obtain rfl : x2 = (x3.length : Int) := by omega
  simp

theorem decI_cases (b : List UInt8) : (decE b = 0 ∧ ∃ t, decV b = fieldsI t ∧ mayItem t = true ∧ decIV b = t ∧ decIE b = 0 ∧ rdecIV b = t ∧ rdecIE b = 0) ∨ (decIV b = item0 ∧ rdecIV b = item0 ∧ decIE b ≠ 0 ∧ rdecIE b = decIE b) :=
  decG_cases rdItem_inv rrItem_inv rdItem_fwd rrItem_fwd b
theorem decI_same (b : List UInt8) : rdecIV b = decIV b ∧ rdecIE b = decIE b := by
  rcases decI_cases b with ⟨_, t, _, _, h1, h2, h3, h4⟩ | ⟨h1, h2, _, h4⟩
  · rw [h1, h2, h3, h4]; exact ⟨rfl, rfl⟩
  · rw [h1, h2, h4]; exact ⟨rfl, rfl⟩
theorem encI_dec {b : List UInt8} (h : decIE b = 0) : encIE (decIV b) = 0 ∧ encIV (decIV b) = b := by
  rcases decI_cases b with ⟨he, t, hf, hm, h1, _⟩ | ⟨_, _, hn, _⟩
  · rw [h1]; exact encG_dec he hf hm
  · exact absurd h hn
theorem decIV_may (b : List UInt8) : mayItem (decIV b) = true ∨ decIV b = item0 := by
  rcases decI_cases b with ⟨_, t, _, hm, h1, _⟩ | ⟨h1, _⟩
  · rw [h1]; exact .inl hm
  · exact .inr h1
theorem oprF_len (l : List Opr) : (l.flatMap oprF).length = 5 * l.length := by
  induction l with
  | nil => rfl
  | cons a t ih => rw [List.flatMap_cons, List.length_append, ih, List.length_cons]; show 5 + _ = _; omega
theorem noteF_len (l : List Note) : (l.flatMap noteF).length = 7 * l.length := by
  induction l with
  | nil => rfl
  | cons a t ih => rw [List.flatMap_cons, List.length_append, ih, List.length_cons]; show 7 + _ = _; omega
theorem fieldsI_len (x : Item) : (fieldsI x).length = 3 + 5 * x.ops.length + 7 * x.notes.length := by
  unfold fieldsI
  simp only [List.length_append, List.length_cons, List.length_nil, oprF_len, noteF_len]
  omega
theorem numF_ok (n : Int) : okField (numF n) = true := by simp [okField, numF]
theorem oprF_ok {o : Opr} (h : o.val.size ≤ 4096) : ∀ f ∈ oprF o, okField f = true := by
  intro f hf
  unfold oprF at hf
  simp only [List.mem_cons, List.not_mem_nil, or_false] at hf
  rcases hf with rfl | rfl | rfl | rfl | rfl
  · exact numF_ok _
  · exact numF_ok _
  · exact numF_ok _
  · exact numF_ok _
  · exact okT h
theorem noteF_ok (n : Note) : ∀ f ∈ noteF n, okField f = true := by
  intro f hf
  unfold noteF at hf
  simp only [List.mem_cons, List.not_mem_nil, or_false] at hf
  rcases hf with rfl | rfl | rfl | rfl | rfl | rfl | rfl <;> exact numF_ok _
theorem oprF_wf {o : Opr} (h : o.wf) : ∀ f ∈ oprF o, f.wf := by
  obtain ⟨h1, h2, h3, h4⟩ := h
  intro f hf
  unfold oprF at hf
  simp only [List.mem_cons, List.not_mem_nil, or_false] at hf
  rcases hf with rfl | rfl | rfl | rfl | rfl
  · exact numF_wf h1
  · exact numF_wf h2
  · exact numF_wf h3
  · exact numF_wf (bitI_wf _)
  · exact txtF_wf h4
theorem noteF_wf {n : Note} (h : n.wf) : ∀ f ∈ noteF n, f.wf := by
  obtain ⟨h1, h2, h3, h4, h5, h6⟩ := h
  intro f hf
  unfold noteF at hf
  simp only [List.mem_cons, List.not_mem_nil, or_false] at hf
  rcases hf with rfl | rfl | rfl | rfl | rfl | rfl | rfl
  · exact numF_wf h1
  · exact numF_wf h2
  · exact numF_wf h3
  · exact numF_wf h4
  · exact numF_wf h5
  · exact numF_wf h6
  · exact numF_wf (bitI_wf _)
theorem mayOpr_wf {o : Opr} {lsn : Int} (h : mayOpr o lsn = true) (hl : lsn ≤ 1099511627776) : o.wf := by
  obtain ⟨h1, h2, h3, h4, h5, h6, h7, _⟩ := mayOpr_parts h
  refine ⟨?_, ?_, ?_, ?_⟩
  · unfold I64; omega
  · unfold I64; omega
  · unfold I64; omega
  · unfold maxLen; omega
theorem mayNot_wf {n : Note} {lsn : Int} (h : mayNot n lsn = true) (hl : lsn ≤ 1099511627776) : n.wf := by
  obtain ⟨h1, h2, h3, h4, h5, h6, h7, h8, h9, h10, h11, h12⟩ := mayNot_parts h hl
  refine ⟨?_, ?_, ?_, ?_, ?_, ?_⟩ <;> (unfold I64; omega)
theorem fieldsI_ok {x : Item} (h : mayItem x = true) : (fieldsI x).all okField = true ∧ (fieldsI x).length ≤ 32767 ∧ ∀ f ∈ fieldsI x, f.wf := by
  obtain ⟨h1, h2, h3, h4, h5, h6⟩ := mayItem_parts h
  refine ⟨?_, by rw [fieldsI_len]; omega, ?_⟩
  · rw [List.all_eq_true]
    intro f hf
    unfold fieldsI at hf
    simp only [List.mem_append, List.mem_flatMap, List.mem_cons, List.not_mem_nil, or_false] at hf
    rcases hf with (((rfl | rfl) | ⟨c, hc, hf⟩) | rfl) | ⟨c, hc, hf⟩
    · exact numF_ok _
    · exact numF_ok _
    · exact oprF_ok (by have := (mayOpr_parts (h5 c hc)).2.2.2.2.2.2.1; omega) f hf
    · exact numF_ok _
    · exact noteF_ok c f hf
  · intro f hf
    unfold fieldsI at hf
    simp only [List.mem_append, List.mem_flatMap, List.mem_cons, List.not_mem_nil, or_false] at hf
    have hi : ∀ n : Int, 0 ≤ n → n ≤ 1099511627776 → (numF n).wf := fun n a b => numF_wf (by unfold I64; omega)
    rcases hf with (((rfl | rfl) | ⟨c, hc, hf⟩) | rfl) | ⟨c, hc, hf⟩
    · exact hi _ (by omega) (by omega)
    · exact hi _ (by omega) (by omega)
    · exact oprF_wf (mayOpr_wf (h5 c hc) h2) f hf
    · exact hi _ (by omega) (by omega)
    · exact noteF_wf (mayNot_wf (h6 c hc) h2) f hf
/-- What is encoded is decoded; cut off it is too short; with more behind it is none. -/
theorem decI_enc {x : Item} (h : mayItem x = true) : encIE x = 0 ∧ encIV x = encB (fieldsI x) ∧ decIE (encIV x) = 0 ∧ decIV (encIV x) = x ∧ (∀ k, k < (encIV x).length → decIE ((encIV x).take k) = 2) ∧ (∀ m, decIE (encIV x ++ [m]) = 3) := by
  obtain ⟨h1, h2, h3⟩ := fieldsI_ok h
  exact decG_enc h h1 h2 h3 (rdItem_fwd x h)
theorem encIV_len {x : Item} (h : mayItem x = true) : 2 ≤ (encIV x).length ∧ (encIV x).length ≤ 134312002 := by
  obtain ⟨h1, h2, h3⟩ := fieldsI_ok h
  rw [(decI_enc h).2.1]
  unfold encB
  rw [List.length_append, bigB_len]
  have := encL_len h1
  omega
theorem rdOpr_wf (l : List Fld) (bad : Bool) (h : wfL l) : (rdOpr l bad).1.wf ∧ wfL (rdOpr l bad).2.1 := by
  have ha := intP_wf h bad
  have hb := smallP_wf ha.2 (intP l bad).2.2 8 (by omega)
  have hc := intP_wf hb.2.2 (smallP (intP l bad).2.1 (intP l bad).2.2 8).2.2
  have hd := bitP_wf hc.2 (intP (smallP (intP l bad).2.1 (intP l bad).2.2 8).2.1 (smallP (intP l bad).2.1 (intP l bad).2.2 8).2.2).2.2
  have he := textP_wf hd (bitP (intP (smallP (intP l bad).2.1 (intP l bad).2.2 8).2.1 (smallP (intP l bad).2.1 (intP l bad).2.2 8).2.2).2.1 (intP (smallP (intP l bad).2.1 (intP l bad).2.2 8).2.1 (smallP (intP l bad).2.1 (intP l bad).2.2 8).2.2).2.2).2.2
  refine ⟨⟨ha.1, ?_, hc.1, he.1⟩, he.2⟩
  show I64 (smallP (intP l bad).2.1 (intP l bad).2.2 8).1
  unfold I64
  omega
theorem rdNote_wf (l : List Fld) (bad : Bool) (h : wfL l) : (rdNote l bad).1.wf ∧ wfL (rdNote l bad).2.1 := by
  unfold rdNote
  obtain ⟨⟨x1, l1, b1⟩, h1⟩ : ∃ a, smallP l bad 2 = a := ⟨_, rfl⟩
  have o1 := smallP_wf h bad 2 (by omega)
  rw [h1] at o1 ⊢; dsimp only at o1 ⊢
  obtain ⟨⟨x2, l2, b2⟩, h2⟩ : ∃ a, smallP l1 b1 64 = a := ⟨_, rfl⟩
  have o2 := smallP_wf o1.2.2 b1 64 (by omega)
  rw [h2] at o2 ⊢; dsimp only at o2 ⊢
  obtain ⟨⟨x3, l3, b3⟩, h3⟩ : ∃ a, smallP l2 b2 8 = a := ⟨_, rfl⟩
  have o3 := smallP_wf o2.2.2 b2 8 (by omega)
  rw [h3] at o3 ⊢; dsimp only at o3 ⊢
  obtain ⟨⟨x4, l4, b4⟩, h4⟩ : ∃ a, smallP l3 b3 8 = a := ⟨_, rfl⟩
  have o4 := smallP_wf o3.2.2 b3 8 (by omega)
  rw [h4] at o4 ⊢; dsimp only at o4 ⊢
  obtain ⟨⟨x5, l5, b5⟩, h5⟩ : ∃ a, intP l4 b4 = a := ⟨_, rfl⟩
  have o5 := intP_wf o4.2.2 b4
  rw [h5] at o5 ⊢; dsimp only at o5 ⊢
  obtain ⟨⟨x6, l6, b6⟩, h6⟩ : ∃ a, intP l5 b5 = a := ⟨_, rfl⟩
  have o6 := intP_wf o5.2 b5
  rw [h6] at o6 ⊢; dsimp only at o6 ⊢
  have o7 := bitP_wf o6.2 b6
  refine ⟨⟨?_, ?_, ?_, ?_, o5.1, o6.1⟩, o7⟩ <;> (unfold I64; dsimp only; omega)
theorem rrOpr_wf (l : List Fld) (bad : Bool) (h : wfL l) : (rrOpr l bad).1.wf ∧ wfL (rrOpr l bad).2.1 := by
  have ha := rintP_wf h bad 1099511627776 (by omega)
  have hc := rrChg_wf ha.2.2 (rintP l bad 1099511627776).2.2
  refine ⟨⟨?_, hc.1.1, hc.1.2.1, hc.1.2.2⟩, hc.2⟩
  show I64 (rintP l bad 1099511627776).1
  unfold I64
  omega
theorem rrNote_wf (l : List Fld) (bad : Bool) (h : wfL l) : (rrNote l bad).1.wf ∧ wfL (rrNote l bad).2.1 := by
  unfold rrNote
  obtain ⟨⟨x1, l1, b1⟩, h1⟩ : ∃ a, rintP l bad 2 = a := ⟨_, rfl⟩
  have o1 := rintP_wf h bad 2 (by omega)
  rw [h1] at o1 ⊢; dsimp only at o1 ⊢
  obtain ⟨⟨x2, l2, b2⟩, h2⟩ : ∃ a, rintP l1 b1 64 = a := ⟨_, rfl⟩
  have o2 := rintP_wf o1.2.2 b1 64 (by omega)
  rw [h2] at o2 ⊢; dsimp only at o2 ⊢
  obtain ⟨⟨x3, l3, b3⟩, h3⟩ : ∃ a, rintP l2 b2 8 = a := ⟨_, rfl⟩
  have o3 := rintP_wf o2.2.2 b2 8 (by omega)
  rw [h3] at o3 ⊢; dsimp only at o3 ⊢
  obtain ⟨⟨x4, l4, b4⟩, h4⟩ : ∃ a, rintP l3 b3 8 = a := ⟨_, rfl⟩
  have o4 := rintP_wf o3.2.2 b3 8 (by omega)
  rw [h4] at o4 ⊢; dsimp only at o4 ⊢
  obtain ⟨⟨x5, l5, b5⟩, h5⟩ : ∃ a, rintP l4 b4 1099511627776 = a := ⟨_, rfl⟩
  have o5 := rintP_wf o4.2.2 b4 1099511627776 (by omega)
  rw [h5] at o5 ⊢; dsimp only at o5 ⊢
  obtain ⟨⟨x6, l6, b6⟩, h6⟩ : ∃ a, rintP l5 b5 1099511627776 = a := ⟨_, rfl⟩
  have o6 := rintP_wf o5.2.2 b5 1099511627776 (by omega)
  rw [h6] at o6 ⊢; dsimp only at o6 ⊢
  have o7 := rflagP_wf o6.2.2 b6
  refine ⟨⟨?_, ?_, ?_, ?_, ?_, ?_⟩, o7⟩ <;> (unfold I64; dsimp only; omega)
end Go.Proofs.Ytcohheoahdbgmaa
