/- Struct types of the program as Lean structures: how they lie in cells, and how readings are opened into them. Written by gen_types.py. Plain laws for MuxCarries: a replica's cells against a table's rows; which tables were asked for. Plain laws for MuxCarries: which tables were asked for, and by which transaction first; a mux whose window is never opened. Plain laws for MuxCarries: what a transaction makes of the mux, and of the replica. -/
import Derived.Test.YthhpddiicnjmmaaTypesM
import Derived.Test.YthhpddiicnjmmaaMuxS
import Derived.Test.YthhpddiicnjmmaaSet4
import Derived.Test.YthhpddiicnjmmaaPlT
namespace Go.Proofs.Ythhpddiicnjmmaa
open Go.ChangeShapes Go.WideShapes Go.ChangeAt Go.RowKit Go.Deep

/-! ### qanat/api.Cell -/
structure Cell where
  key : Int
  lsn : Int
  gone : Bool
  val : ByteArray

instance : Inhabited Cell := ⟨⟨0, 0, false, ByteArray.empty⟩⟩
def Cell.cells (x : Cell) : List Value := [.int .i64 x.key, .int .i64 x.lsn, .bool x.gone, .string x.val]
def Cell.wf (x : Cell) : Prop := I64 x.key ∧ I64 x.lsn ∧ x.val.size ≤ maxLen
def cellRep : Rep Cell := Rep.flat 4 (by omega) Cell.cells Cell.wf (fun _ => rfl) (by
  intro a u hu
  simp only [Cell.cells, List.mem_cons, List.not_mem_nil, or_false] at hu
  rcases hu with rfl | rfl | rfl | rfl <;> rfl)
theorem flat_cell : Flat cellRep := fun _ _ _ _ _ _ h => h

set_option maxRecDepth 100000 in
theorem opens_cell {H : Type} {enc : TypeId × Value → H} {w : World} : Opens enc Try.prog w 155 cellRep := by
  intro fuel cs x h
  obtain ⟨xs, k, _, _, hlen, hxl, hf⟩ := DataW.trod_struct Try.underlying155 h
  rw [show Try.prog.cellsOf 155 = 4 from by kernel_rfl] at hlen
  match cs, hlen with
  | [v0, v1, v2, v3], _ =>
    have hx : xs.length = 4 := hxl
    have h0 := (hf 0 _ rfl).trans (List.getElem?_eq_getElem (by omega))
    have e0 : DataW.trod enc Try.prog w 0 (fun _ => true) true k _ [v0] = some _ := h0
    obtain ⟨n0, q0, _, b0⟩ := DataW.trod_int (by kernel_rfl) e0
    obtain rfl : v0 = .int .i64 n0 := by simpa using q0
    have h1 := (hf 1 _ rfl).trans (List.getElem?_eq_getElem (by omega))
    have e1 : DataW.trod enc Try.prog w 0 (fun _ => true) true k _ [v1] = some _ := h1
    obtain ⟨n1, q1, _, b1⟩ := DataW.trod_int (by kernel_rfl) e1
    obtain rfl : v1 = .int .i64 n1 := by simpa using q1
    have h2 := (hf 2 _ rfl).trans (List.getElem?_eq_getElem (by omega))
    have e2 : DataW.trod enc Try.prog w 0 (fun _ => true) true k _ [v2] = some _ := h2
    obtain ⟨n2, q2, _⟩ := DataW.trod_bool (by kernel_rfl) e2
    obtain rfl : v2 = .bool n2 := by simpa using q2
    have h3 := (hf 3 _ rfl).trans (List.getElem?_eq_getElem (by omega))
    have e3 : DataW.trod enc Try.prog w 0 (fun _ => true) true k _ [v3] = some _ := h3
    obtain ⟨n3, q3, _, b3⟩ := DataW.trod_string (by kernel_rfl) e3
    obtain rfl : v3 = .string n3 := by simpa using q3
    exact ⟨⟨n0, n1, n2, n3⟩, rfl, i64_of_wf b0, i64_of_wf b1, b3⟩

end Go.Proofs.Ythhpddiicnjmmaa

set_option linter.unusedVariables false
set_option linter.unusedSimpArgs false
namespace Go.Proofs.Ythhpddiicnjmmaa
open Go.RowKit

/-! ### Cells and rows -/
def cellOf (o : Opr) : Cell := ⟨o.key, o.lsn, o.gone, if o.gone = true then ⟨#[]⟩ else o.val⟩
def putC : List Cell → Opr → List Cell
  | [], o => [cellOf o]
  | c :: t, o => if c.key < o.key then c :: putC t o else if c.key = o.key then (if o.lsn < c.lsn then c :: t else cellOf o :: t) else cellOf o :: c :: t
def rowsC (l : List Cell) : List Row := (l.filter (fun c => !c.gone)).map (fun c => ⟨c.key, c.val⟩)
def oneK (L : List Row) (gone : Bool) (key : Int) (val : ByteArray) : List Row := if gone = true then delL L key else putL L key val

def SrtC (l : List Cell) : Prop := l.Pairwise (fun a b => a.key < b.key)
theorem putL_gt : ∀ (l : List Row) (k : Int) (v : ByteArray), (∀ r ∈ l, k < r.key) → putL l k v = ⟨k, v⟩ :: l
  | [], _, _, _ => rfl
  | r :: t, k, v, h => by
    have h1 := h r (List.mem_cons_self ..)
    rw [putL, if_neg (by omega), if_neg (by omega)]
theorem rowsC_mem {l : List Cell} {r : Row} (h : r ∈ rowsC l) : ∃ c ∈ l, c.key = r.key := by
  unfold rowsC at h
  obtain ⟨c, hc, rfl⟩ := List.mem_map.1 h
  exact ⟨c, (List.mem_filter.1 hc).1, rfl⟩
theorem rowsC_cons (c : Cell) (l : List Cell) : rowsC (c :: l) = if c.gone = true then rowsC l else ⟨c.key, c.val⟩ :: rowsC l := by
  unfold rowsC
  cases hc : c.gone <;> simp [List.filter_cons, hc]
theorem mem_putC : ∀ (l : List Cell) (o : Opr) (c : Cell), c ∈ putC l o → c = cellOf o ∨ c ∈ l
  | [], o, c, h => .inl (List.mem_singleton.1 h)
  | d :: t, o, c, h => by
    rw [putC] at h
    split at h
    · rcases List.mem_cons.1 h with h | h
      · exact .inr (h ▸ List.mem_cons_self ..)
      · exact (mem_putC t o c h).imp id (List.mem_cons_of_mem _)
    · split at h
      · split at h
        · exact .inr h
        · rcases List.mem_cons.1 h with h | h
          · exact .inl h
          · exact .inr (List.mem_cons_of_mem _ h)
      · rcases List.mem_cons.1 h with h | h
        · exact .inl h
        · exact .inr h
theorem srt_putC : ∀ (l : List Cell) (o : Opr), SrtC l → SrtC (putC l o)
  | [], o, _ => List.pairwise_singleton _ _
  | c :: t, o, h => by
    obtain ⟨h1, h2⟩ := List.pairwise_cons.1 h
    rw [putC]
    by_cases hk : c.key < o.key
    · rw [if_pos hk]
      refine List.pairwise_cons.2 ⟨fun d hd => ?_, srt_putC t o h2⟩
      rcases mem_putC t o d hd with rfl | hd
      · exact hk
      · exact h1 d hd
    · rw [if_neg hk]
      by_cases he : c.key = o.key
      · rw [if_pos he]
        split
        · exact h
        · exact List.pairwise_cons.2 ⟨fun d hd => by have := h1 d hd; show o.key < d.key; omega, h2⟩
      · rw [if_neg he]
        refine List.pairwise_cons.2 ⟨fun d hd => ?_, h⟩
        show o.key < d.key
        rcases List.mem_cons.1 hd with rfl | hd
        · omega
        · have := h1 d hd; omega
theorem rows_putC : ∀ (l : List Cell) (o : Opr), SrtC l → (∀ c ∈ l, c.lsn ≤ o.lsn) → rowsC (putC l o) = oneK (rowsC l) o.gone o.key o.val
  | [], o, _, _ => by
    rw [putC, rowsC_cons]
    unfold cellOf oneK
    cases o.gone <;> rfl
  | c :: t, o, h, hl => by
    obtain ⟨h1, h2⟩ := List.pairwise_cons.1 h
    have ih := rows_putC t o h2 (fun d hd => hl d (List.mem_cons_of_mem _ hd))
    have hcl := hl c (List.mem_cons_self ..)
    have hrt : ∀ r ∈ rowsC t, c.key < r.key := fun r hr => by obtain ⟨d, hd, he⟩ := rowsC_mem hr; have := h1 d hd; omega
    rw [putC]
    by_cases hk : c.key < o.key
    · rw [if_pos hk, rowsC_cons, rowsC_cons, ih]
      cases hg : c.gone with
      | true => rw [if_pos rfl, if_pos rfl]
      | false =>
        rw [if_neg (by simp), if_neg (by simp)]
        unfold oneK
        cases o.gone with
        | true => rw [if_pos rfl, if_pos rfl, delL, if_neg (by show ¬ c.key = o.key; omega)]
        | false => rw [if_neg (by simp), if_neg (by simp), putL, if_pos (by show c.key < o.key; exact hk)]
    · rw [if_neg hk]
      by_cases he : c.key = o.key
      · rw [if_pos he, if_neg (by omega), rowsC_cons, rowsC_cons]
        show (if o.gone = true then rowsC t else ⟨o.key, if o.gone = true then ⟨#[]⟩ else o.val⟩ :: rowsC t) = _
        unfold oneK
        cases o.gone with
        | true =>
          rw [if_pos rfl, if_pos rfl]
          cases c.gone with
          | true => rw [if_pos rfl, delL_none _ _ (fun r hr => by have := hrt r hr; omega)]
          | false => rw [if_neg (by simp), delL, if_pos (by exact he)]
        | false =>
          rw [if_neg (by simp), if_neg (by simp), if_neg (by simp)]
          cases c.gone with
          | true => rw [if_pos rfl, putL_gt _ _ _ (fun r hr => by have := hrt r hr; omega)]
          | false => rw [if_neg (by simp), putL, if_neg (by show ¬ c.key < o.key; omega), if_pos (by exact he)]
      · rw [if_neg he, rowsC_cons]
        have hall : ∀ r ∈ rowsC (c :: t), o.key < r.key := fun r hr => by
          obtain ⟨d, hd, hde⟩ := rowsC_mem hr
          rcases List.mem_cons.1 hd with rfl | hd
          · omega
          · have := h1 d hd; omega
        show (if o.gone = true then rowsC (c :: t) else ⟨o.key, if o.gone = true then ⟨#[]⟩ else o.val⟩ :: rowsC (c :: t)) = _
        unfold oneK
        cases o.gone with
        | true => rw [if_pos rfl, if_pos rfl, delL_none _ _ (fun r hr => by have := hall r hr; omega)]
        | false => rw [if_neg (by simp), if_neg (by simp), if_neg (by simp), putL_gt _ _ _ hall]

/-! ### Tables of cells, tables of rows -/
def repPut (tabs : List (List Cell)) (o : Opr) : List (List Cell) := tabs.set o.table.toNat (putC ((tabs[o.table.toNat]?).getD []) o)
def repAll (tabs : List (List Cell)) (l : List Opr) : List (List Cell) := l.foldl repPut tabs
theorem repPut_len (tabs : List (List Cell)) (o : Opr) : (repPut tabs o).length = tabs.length := by unfold repPut; simp
theorem repAll_len : ∀ (l : List Opr) (tabs : List (List Cell)), (repAll tabs l).length = tabs.length
  | [], _ => rfl
  | o :: t, tabs => by show (repAll (repPut tabs o) t).length = _; rw [repAll_len t, repPut_len]
theorem repAll_snoc (l : List Opr) (o : Opr) (tabs : List (List Cell)) : repAll tabs (l ++ [o]) = repPut (repAll tabs l) o := by unfold repAll; rw [List.foldl_append]; rfl

/-- What holds of each table of a replica: it rises, its Lsns are no greater, its rows are those. -/
def Holds (m : Int) (tabs : List (List Cell)) (f : Nat → List Row) : Prop := ∀ k l, tabs[k]? = some l → SrtC l ∧ (∀ c ∈ l, c.lsn ≤ m) ∧ rowsC l = f k
theorem Holds.le {m m' : Int} {tabs : List (List Cell)} {f : Nat → List Row} (h : Holds m tabs f) (hm : m ≤ m') : Holds m' tabs f := fun k l hl => ⟨(h k l hl).1, fun c hc => Int.le_trans ((h k l hl).2.1 c hc) hm, (h k l hl).2.2⟩
/-- One change of a table. -/
def stepF (f : Nat → List Row) (t : Nat) (gone : Bool) (key : Int) (val : ByteArray) : Nat → List Row := fun k => if k = t then oneK (f k) gone key val else f k
theorem Holds.put {m : Int} {tabs : List (List Cell)} {f : Nat → List Row} (h : Holds m tabs f) (o : Opr) (ho : o.lsn = m) : Holds m (repPut tabs o) (stepF f o.table.toNat o.gone o.key o.val) := by
  intro k l hl
  unfold repPut at hl
  unfold stepF
  by_cases hk : k = o.table.toNat
  · subst hk
    rw [if_pos rfl]
    rw [List.getElem?_set] at hl
    simp only [if_true] at hl
    split at hl
    · next hlt =>
      obtain rfl := Option.some.inj hl
      have hg : tabs[o.table.toNat]? = some tabs[o.table.toNat] := List.getElem?_eq_getElem hlt
      obtain ⟨h1, h2, h3⟩ := h _ _ hg
      rw [hg, Option.getD_some]
      refine ⟨srt_putC _ o h1, fun c hc => ?_, ?_⟩
      · rcases mem_putC _ o c hc with rfl | hc
        · exact Int.le_of_eq ho
        · exact h2 c hc
      · rw [rows_putC _ o h1 (fun c hc => by rw [ho]; exact h2 c hc), h3]
    · cases hl
  · rw [if_neg hk]
    rw [List.getElem?_set_ne (fun e => hk e.symm)] at hl
    exact h k l hl
end Go.Proofs.Ythhpddiicnjmmaa

set_option linter.unusedVariables false
set_option linter.unusedSimpArgs false
namespace Go.Proofs.Ythhpddiicnjmmaa
open Go.RowKit

theorem parse_weight (l : List UInt8) (h : (parseS l).2.2 = true) : 1 ≤ (parseS l).2.1 := by
  unfold parseS at h ⊢
  split at h
  · next hp =>
    rw [if_pos hp]
    revert h
    unfold restOf
    split
    · split
      · intro _; dsimp only; omega
      · intro h; cases h
    · split
      · intro _; dsimp only; omega
      · intro h; cases h
    · intro h; cases h
  · cases h

def askT (s : ByteArray) : Nat := (parseS s.data.toList).1.toNat
def isAsk (n : Nat) (s : ByteArray) : Bool := (parseS s.data.toList).2.2 && decide ((parseS s.data.toList).1 < (n : Int))
/-- A signal of the transaction numbered i: the table's first. -/
def ask1 (n : Nat) (i : Int) (a : List Int) (s : ByteArray) : List Int := if isAsk n s = true ∧ a[askT s]? = some 0 then a.set (askT s) i else a
def askAll (n : Nat) (i : Int) (a : List Int) (l : List ByteArray) : List Int := l.foldl (ask1 n i) a
theorem ask1_len (n : Nat) (i : Int) (a : List Int) (s : ByteArray) : (ask1 n i a s).length = a.length := by unfold ask1; split <;> simp
theorem askAll_snoc (n : Nat) (i : Int) (a : List Int) (l : List ByteArray) (s : ByteArray) : askAll n i a (l ++ [s]) = ask1 n i (askAll n i a l) s := by unfold askAll; rw [List.foldl_append]; rfl

structure Asks (n : Nat) (x : Mx) (a : List Int) (i : Int) : Prop where
  len : a.length = n
  n8 : n ≤ 8
  tabs : x.tables = (n : Int)
  may : mayB x.reqs = true
  opn : ∀ r ∈ x.reqs, r.done = false
  any : ∀ (t : Nat) v, a[t]? = some v → (x.reqs.any (fun r => r.table == (t : Int))) = !(v == 0)
  num : x.reqs.length = a.countP (fun v => !(v == 0))
  ahd : aheadOf x.reqs ≤ i
  val : ∀ v ∈ a, 0 ≤ v ∧ v ≤ i

theorem Asks.more {n : Nat} {x : Mx} {a : List Int} {i j : Int} (h : Asks n x a i) (hj : i ≤ j) : Asks n x a j :=
  ⟨h.len, h.n8, h.tabs, h.may, h.opn, h.any, h.num, Int.le_trans h.ahd hj, fun v hv => ⟨(h.val v hv).1, Int.le_trans (h.val v hv).2 hj⟩⟩
theorem Asks.same {n : Nat} {x y : Mx} {a : List Int} {i : Int} (h : Asks n x a i) (h1 : y.tables = x.tables) (h2 : y.reqs = x.reqs) : Asks n y a i :=
  ⟨h.len, h.n8, by rw [h1]; exact h.tabs, by rw [h2]; exact h.may, by rw [h2]; exact h.opn, by rw [h2]; exact h.any, by rw [h2]; exact h.num, by rw [h2]; exact h.ahd, h.val⟩

theorem clash_any {n : Nat} {x : Mx} {a : List Int} {i : Int} (h : Asks n x a i) (t : Nat) (v : Int) (hv : a[t]? = some v) : clash x.reqs (t : Int) = !(v == 0) := by
  rw [← h.any t v hv]
  unfold clash
  rw [Bool.eq_iff_iff]
  simp only [List.any_eq_true, Bool.and_eq_true, decide_eq_true_eq, Bool.not_eq_true', beq_iff_eq]
  constructor
  · rintro ⟨r, hr, h1, _⟩; exact ⟨r, hr, h1⟩
  · rintro ⟨r, hr, h1⟩; exact ⟨r, hr, h1, h.opn r hr⟩

theorem Asks.one {n : Nat} {x : Mx} {a : List Int} {i : Int} (h : Asks n x a i) (h1 : 1 ≤ i) (h2 : i ≤ 1099511627776) (s : ByteArray) : Asks n (x.acc s i) (ask1 n i a s) i := by
  obtain ⟨b1, b2, b3, b4⟩ := parse_bounds s.data.toList
  have hw := parse_weight s.data.toList
  have hO : x.accO s i = if isAsk n s = true then acceptO x.reqs (parseS s.data.toList).1 (parseS s.data.toList).2.1 i else none := by
    unfold Mx.accO isAsk
    rw [h.tabs]
    by_cases hp : (parseS s.data.toList).2.2 = true ∧ (parseS s.data.toList).1 < (n : Int)
    · rw [if_pos hp, if_pos (by rw [hp.1, decide_eq_true hp.2]; rfl)]
    · rw [if_neg hp, if_neg (by rw [Bool.and_eq_true, decide_eq_true_eq]; exact hp)]
  by_cases ha : isAsk n s = true
  · have ha2 := ha
    unfold isAsk at ha2
    rw [Bool.and_eq_true, decide_eq_true_eq] at ha2
    have hw1 := hw ha2.1
    have ht : ((askT s : Nat) : Int) = (parseS s.data.toList).1 := by unfold askT; omega
    have htn : askT s < a.length := by rw [h.len]; omega
    have hg : a[askT s]? = some a[askT s] := List.getElem?_eq_getElem htn
    have hcl := clash_any h _ _ hg
    have hok : okFrom [] x.reqs = true := by have := h.may; unfold mayB at this; rw [Bool.and_eq_true] at this; exact this.1
    have hop := (open_clash x.reqs hok (askT s : Int)).trans hcl
    rw [if_pos ha] at hO
    by_cases hz : a[askT s] = 0
    · have hnum : x.reqs.length < 8 := by
        have h3 : a.countP (fun v => !(v == 0)) < a.length := by
          refine Nat.lt_of_le_of_ne List.countP_le_length (fun e => ?_)
          have := List.countP_eq_length.1 e _ (List.getElem_mem htn)
          rw [hz] at this
          cases this
        have := h.num
        have := h.len
        have := h.n8
        omega
      have hnew : mayB (x.reqs ++ [⟨(x.reqs.length : Int) + 1, (parseS s.data.toList).1, (parseS s.data.toList).2.1, i, 0, 0, false⟩]) = true := by
        unfold mayB
        rw [okFrom_append, hok, List.nil_append, Bool.true_and]
        simp only [okFrom, Bool.and_true, Bool.and_eq_true, decide_eq_true_eq, List.length_append, List.length_singleton]
        refine ⟨?_, by omega⟩
        unfold stepOk
        rw [decide_eq_true rfl, Bool.true_and]
        dsimp only
        rw [← ht, hop, hz]
        unfold oneB
        rw [decide_eq_true (by
          have := h.ahd
          dsimp only
          refine ⟨by omega, by omega, by omega, by omega, by omega, by omega, by omega, by omega, by omega, ?_⟩
          repeat' first | omega | constructor)]
        rfl
      have hacc : acceptO x.reqs (parseS s.data.toList).1 (parseS s.data.toList).2.1 i = some (x.reqs ++ [⟨(x.reqs.length : Int) + 1, (parseS s.data.toList).1, (parseS s.data.toList).2.1, i, 0, 0, false⟩]) := by
        unfold acceptO
        rw [h.may, hnew]
        rfl
      rw [hacc] at hO
      have hx : x.acc s i = x.setReqs (x.reqs ++ [⟨(x.reqs.length : Int) + 1, (parseS s.data.toList).1, (parseS s.data.toList).2.1, i, 0, 0, false⟩]) := by unfold Mx.acc; rw [hO]; rfl
      have hask : ask1 n i a s = a.set (askT s) i := if_pos ⟨ha, by rw [hg, hz]⟩
      rw [hx, hask]
      have hi0 : (i == 0) = false := by simp; omega
      refine ⟨by rw [List.length_set]; exact h.len, h.n8, h.tabs, hnew, fun r hr => ?_, fun t v hv => ?_, ?_, ?_, fun v hv => ?_⟩
      · rcases List.mem_append.1 hr with hr | hr
        · exact h.opn r hr
        · rw [List.mem_singleton.1 hr]
      · show (x.reqs ++ _).any _ = _
        rw [List.any_append]
        by_cases e : askT s = t
        · subst e
          rw [List.getElem?_set_self htn] at hv
          obtain rfl := Option.some.inj hv
          rw [hi0]
          simp [ht]
        · rw [List.getElem?_set_ne e] at hv
          rw [h.any t v hv]
          have : ((parseS s.data.toList).1 == (t : Int)) = false := by rw [← ht]; simp; omega
          simp [this]
      · show (x.reqs ++ _).length = _
        rw [List.countP_set htn, List.length_append, h.num, hz, hi0]
        simp
      · show aheadOf (x.reqs ++ _) ≤ i
        rw [aheadOf_snoc]
        exact Int.le_refl _
      · rcases List.mem_or_eq_of_mem_set hv with hv | rfl
        · exact h.val v hv
        · exact ⟨by omega, Int.le_refl _⟩
    · have hacc : acceptO x.reqs (parseS s.data.toList).1 (parseS s.data.toList).2.1 i = none := by
        unfold acceptO
        refine if_neg ?_
        rw [Bool.and_eq_true]
        rintro ⟨_, hn⟩
        unfold mayB at hn
        rw [Bool.and_eq_true, okFrom_append, List.nil_append] at hn
        simp only [okFrom, Bool.and_true, Bool.and_eq_true] at hn
        have := hn.1.2
        unfold stepOk at this
        dsimp only at this
        rw [← ht, hop] at this
        have hb : (!(a[askT s] == 0)) = true := by simp; exact hz
        rw [hb] at this
        simp at this
      rw [hacc] at hO
      have hx : x.acc s i = x := by unfold Mx.acc; rw [hO]
      have hask : ask1 n i a s = a := if_neg (fun e => hz (by rw [hg] at e; exact Option.some.inj e.2))
      rw [hx, hask]
      exact h
  · rw [if_neg ha] at hO
    have hx : x.acc s i = x := by unfold Mx.acc; rw [hO]
    have hask : ask1 n i a s = a := if_neg (fun e => ha e.1)
    rw [hx, hask]
    exact h

theorem Asks.all {n : Nat} {a : List Int} {i : Int} (h1 : 1 ≤ i) (h2 : i ≤ 1099511627776) : ∀ (l : List ByteArray) (x : Mx), Asks n x a i → Asks n (x.accs i l).1 (askAll n i a l) i := by
  intro l
  suffices h : ∀ (m : Nat) (l : List ByteArray), l.length = m → ∀ x, Asks n x a i → Asks n (x.accs i l).1 (askAll n i a l) i from h _ l rfl
  intro m
  induction m with
  | zero => intro l hl x hx; have := List.eq_nil_of_length_eq_zero hl; subst this; exact hx
  | succ m ih =>
    intro l hl x hx
    have hne : l ≠ [] := by rintro rfl; simp at hl
    obtain ⟨q, s, rfl⟩ : ∃ q s, l = q ++ [s] := ⟨l.dropLast, l.getLast hne, (List.dropLast_concat_getLast hne).symm⟩
    rw [Mx.accs_snoc, askAll_snoc]
    exact (ih q (by simp at hl; exact hl) x hx).one h1 h2 s

/-- Carried over: a table that is not late, or was asked for. -/
theorem Asks.capt {n : Nat} {x : Mx} {a : List Int} {i : Int} (h : Asks n x a i) (t : Nat) (v : Int) (hv : a[t]? = some v) : x.capt (t : Int) = (!lateB x.late (t : Int) || !(v == 0)) := by
  have ht : t < n := by rw [← h.len]; exact (List.getElem?_eq_some_iff.1 hv).1
  unfold Mx.capt
  rw [h.tabs, decide_eq_true ⟨by omega, by omega⟩, Bool.true_and, h.any t v hv]
end Go.Proofs.Ythhpddiicnjmmaa

set_option linter.unusedVariables false
set_option linter.unusedSimpArgs false
namespace Go.Proofs.Ythhpddiicnjmmaa
open Go.RowKit

/-! ### Transactions that may be -/
theorem playFrom_at (t : Nat) : ∀ (l : List Txn) (i k : Nat), (playFrom t i l)[k]? = (l[k]?).map (playTxn t (i + k))
  | [], i, k => by simp [playFrom]
  | x :: r, i, 0 => by simp [playFrom]
  | x :: r, i, k + 1 => by
    rw [playFrom, List.getElem?_cons_succ, playFrom_at t r (i + 1) k, List.getElem?_cons_succ, show i + 1 + k = i + (k + 1) by omega]
theorem playSigs_all' (n : Nat) (l : List ByteArray) : (∀ s ∈ playSigs n 2 l, s.size ≤ 40) := by
  intro s hs
  unfold playSigs at hs
  obtain ⟨q, _, rfl⟩ := List.mem_map.1 hs
  exact playSig_size n q
theorem playTxn_facts (n i : Nat) (x : Txn) (hn : 0 < n) (hn8 : n ≤ 8) (hi : i < 1000000) :
    mayTxn (playTxn n i x) = true ∧ (playTxn n i x).lsn = (i : Int) + 1 ∧ ((playTxn n i x).kind ≠ 1 → (playTxn n i x).changes = [] ∧ (playTxn n i x).signals = []) ∧ ∀ c ∈ (playTxn n i x).changes, 0 ≤ c.table ∧ c.table < (n : Int) := by
  unfold playTxn
  by_cases h : modOf x.kind 9 = 8
  · rw [if_pos h]
    have h1 := modOf_range (x.kind.tdiv 9) 2 (by omega)
    have h2 := modOf_range x.mark 20 (by omega)
    refine ⟨?_, rfl, fun _ => ⟨rfl, rfl⟩, fun c hc => absurd hc (by simp)⟩
    unfold mayTxn
    dsimp only
    rw [decide_eq_true (by omega), if_neg (by omega), decide_eq_true (by refine ⟨by omega, by omega, by omega, rfl, rfl⟩)]
    rfl
  · rw [if_neg h]
    refine ⟨?_, rfl, fun hk => absurd rfl hk, fun c hc => ?_⟩
    · unfold mayTxn mayCli
      dsimp only
      have h5 := playChgs_len (n : Int) 5 x.changes
      have h6 := playSigs_len n 2 x.signals
      rw [decide_eq_true (by omega), if_pos rfl, decide_eq_true ⟨rfl, by omega, by omega⟩]
      simp only [Bool.true_and, Bool.and_eq_true, List.all_eq_true, decide_eq_true_eq]
      refine ⟨fun c hc => ?_, playSigs_all' n x.signals⟩
      unfold playChgs at hc
      obtain ⟨d, _, rfl⟩ := List.mem_map.1 hc
      have h7 := of_decide_eq_true (playChg_may (c := d) (n : Int) (by omega))
      exact decide_eq_true ⟨h7.1, by omega, h7.2.2⟩
    · dsimp only at hc
      unfold playChgs at hc
      obtain ⟨d, _, rfl⟩ := List.mem_map.1 hc
      have h7 := of_decide_eq_true (playChg_may (c := d) (n : Int) (by omega))
      exact ⟨h7.1, h7.2.1⟩

/-! ### A mux whose window is not opened -/
theorem idle_take {x : Mx} {t : Txn} (hm : mayTxn t = true) (hl : t.lsn = x.at_ + 1) (hs : x.win.state = 0) (hk : t.kind ≠ 1 → t.changes = [] ∧ t.signals = []) :
    x.takeE t = 0 ∧ (x.takeI t).lsn = t.lsn ∧ (x.takeI t).ops = ((x.setAt t.lsn).accs t.lsn t.signals).1.ops t.lsn t.changes ∧ (x.takeM t).reqs = ((x.setAt t.lsn).accs t.lsn t.signals).1.reqs ∧ (x.takeM t).tables = x.tables ∧ (x.takeM t).late = x.late ∧ (x.takeM t).win = x.win ∧ (x.takeM t).at_ = t.lsn := by
  have hb : x.bad t = false := by
    unfold Mx.bad Win.waits
    rw [decide_eq_true hl, decide_eq_false (by rintro ⟨_, _, h⟩; omega)]
    rfl
  obtain ⟨e1, e2, e3⟩ := take_ok hm hb
  refine ⟨e1, ?_⟩
  rw [e2, e3]
  obtain ⟨k1, k2, k3, k4⟩ := accs_keep (x.setAt t.lsn) t.lsn t.signals
  by_cases h1 : t.kind = 1
  · rw [if_pos h1, if_pos h1]
    refine ⟨rfl, rfl, rfl, k1, k4, ?_, k2⟩
    show (((x.setAt t.lsn).accs t.lsn t.signals).1.win.see t.changes) = x.win
    rw [k3]
    unfold Win.see
    rw [if_neg (by show ¬ x.win.state = 4; omega)]
    rfl
  · obtain ⟨hc, hg⟩ := hk h1
    rw [if_neg h1, if_neg h1, hc, hg]
    have hok : x.win.highOk t.mark t.lsn = false := decide_eq_false (by rintro ⟨h, _⟩; omega)
    have hops : ((x.setAt t.lsn).accs t.lsn []).1.ops t.lsn [] = [] := rfl
    rw [hops]
    by_cases h3 : t.kind = 3
    · rw [if_pos h3, if_pos h3]
      have hI : (x.setAt t.lsn).highI t = ⟨t.lsn, [], []⟩ := if_neg (by show ¬ x.win.highOk t.mark t.lsn = true; rw [hok]; simp)
      have hO : (x.setAt t.lsn).highO t = none := if_neg (by show ¬ x.win.highOk t.mark t.lsn = true; rw [hok]; simp)
      have hM : (x.setAt t.lsn).highM t = (x.setAt t.lsn).setWin (x.win.told t.mark t.lsn) := by unfold Mx.highM; rw [hO]; rfl
      rw [hI, hM]
      refine ⟨rfl, rfl, rfl, rfl, rfl, ?_, rfl⟩
      show x.win.told t.mark t.lsn = x.win
      exact if_neg (by rw [hok]; simp)
    · rw [if_neg h3, if_neg h3]
      refine ⟨rfl, rfl, rfl, rfl, rfl, ?_, rfl⟩
      show x.win.low t.mark = x.win
      exact if_neg (by rintro ⟨h, _⟩; omega)

/-! ### Rows of a table -/
def allK (L : List Row) (l : List Chg) : List Row := l.foldl (fun L c => oneK L c.gone c.key c.val) L
def ofT (k : Nat) (l : List Chg) : List Chg := l.filter (fun c => c.table == (k : Int))
theorem allK_app (L : List Row) (a b : List Chg) : allK L (a ++ b) = allK (allK L a) b := by unfold allK; rw [List.foldl_append]
theorem ofT_app (k : Nat) (a b : List Chg) : ofT k (a ++ b) = ofT k a ++ ofT k b := by unfold ofT; rw [List.filter_append]

theorem Holds.eq {m : Int} {tabs : List (List Cell)} {f g : Nat → List Row} (h : Holds m tabs f) (e : ∀ k, k < tabs.length → f k = g k) : Holds m tabs g :=
  fun k l hl => ⟨(h k l hl).1, (h k l hl).2.1, by rw [← e k (List.getElem?_eq_some_iff.1 hl).1]; exact (h k l hl).2.2⟩
theorem Holds.all {m : Int} : ∀ (l : List Opr) (tabs : List (List Cell)) (f : Nat → List Row), (∀ o ∈ l, o.lsn = m) → Holds m tabs f → Holds m (repAll tabs l) (l.foldl (fun f o => stepF f o.table.toNat o.gone o.key o.val) f)
  | [], _, _, _, h => h
  | o :: t, tabs, f, ho, h => Holds.all t (repPut tabs o) _ (fun q hq => ho q (List.mem_cons_of_mem _ hq)) (h.put o (ho o (List.mem_cons_self ..)))

theorem step_ops (k : Nat) (lsn : Int) : ∀ (l : List Chg) (f : Nat → List Row), (∀ c ∈ l, 0 ≤ c.table) → ((l.map (chgO lsn)).foldl (fun f o => stepF f o.table.toNat o.gone o.key o.val) f) k = allK (f k) (ofT k l)
  | [], _, _ => rfl
  | c :: t, f, h => by
    have h0 := h c (List.mem_cons_self ..)
    rw [List.map_cons, List.foldl_cons, step_ops k lsn t _ (fun q hq => h q (List.mem_cons_of_mem _ hq))]
    show allK (stepF f c.table.toNat c.gone c.key c.val k) (ofT k t) = _
    unfold stepF ofT
    by_cases e : k = c.table.toNat
    · have e2 : (c.table == (k : Int)) = true := by simp; omega
      rw [if_pos e, List.filter_cons, if_pos e2]
      rfl
    · have e2 : (c.table == (k : Int)) = false := by simp; omega
      rw [if_neg e, List.filter_cons, if_neg (by rw [e2]; simp)]
theorem ofT_capt (x : Mx) (k : Nat) (l : List Chg) : ofT k (l.filter (fun c => x.capt c.table)) = if x.capt (k : Int) = true then ofT k l else [] := by
  unfold ofT
  rw [List.filter_filter]
  cases h : x.capt (k : Int) with
  | true =>
    rw [if_pos rfl]
    refine List.filter_congr (fun c _ => ?_)
    cases e : (c.table == (k : Int)) with
    | true => rw [Bool.true_and, eq_of_beq e, h]
    | false => rfl
  | false =>
    rw [if_neg (by simp)]
    refine List.filter_eq_nil_iff.2 (fun c _ => ?_)
    cases e : (c.table == (k : Int)) with
    | true => rw [Bool.true_and, eq_of_beq e, h]; simp
    | false => simp

/-! ### From which transaction on -/
def fromA (late : Int) (a : List Int) (k : Nat) : Int := if lateB late (k : Int) = true then (a[k]?).getD 0 else 1
def carF (T : List Txn) (i : Nat) (late : Int) (a : List Int) (k : Nat) : List Row :=
  if fromA late a k = 0 then [] else allK [] (ofT k (((T.take i).drop (fromA late a k - 1).toNat).flatMap (·.changes)))

theorem ask_keep (n : Nat) (j : Int) (k : Nat) : ∀ (l : List ByteArray) (a : List Int) (v : Int), a[k]? = some v → ∃ v', (askAll n j a l)[k]? = some v' ∧ (v ≠ 0 → v' = v) ∧ (v' = v ∨ v' = j)
  | [], a, v, h => ⟨v, h, fun _ => rfl, .inl rfl⟩
  | s :: t, a, v, h => by
    have h1 : ∃ u, (ask1 n j a s)[k]? = some u ∧ (v ≠ 0 → u = v) ∧ (u = v ∨ u = j) := by
      unfold ask1
      split
      · next hc =>
        by_cases e : askT s = k
        · subst e
          have hv : v = 0 := by have := hc.2; rw [h] at this; exact Option.some.inj this
          exact ⟨j, List.getElem?_set_self (List.getElem?_eq_some_iff.1 h).1, fun hn => absurd hv hn, .inr rfl⟩
        · exact ⟨v, by rw [List.getElem?_set_ne e]; exact h, fun _ => rfl, .inl rfl⟩
      · exact ⟨v, h, fun _ => rfl, .inl rfl⟩
    obtain ⟨u, hu, hu1, hu2⟩ := h1
    obtain ⟨v', hv', k1, k2⟩ := ask_keep n j k t (ask1 n j a s) u hu
    refine ⟨v', hv', fun hv => ?_, ?_⟩
    · have := hu1 hv; subst this; exact k1 hv
    · rcases k2 with rfl | rfl
      · exact hu2
      · exact .inr rfl

theorem take_drop_snoc {α : Type} {T : List α} {i f : Nat} {t : α} (ht : T[i]? = some t) (hf : f ≤ i) : (T.take (i + 1)).drop f = (T.take i).drop f ++ [t] := by
  rw [take_snoc ht, List.drop_append_of_le_length]
  have := (List.getElem?_eq_some_iff.1 ht).1
  rw [List.length_take]
  omega

/-- One transaction more. -/
theorem carF_step {T : List Txn} {i : Nat} {late : Int} {a : List Int} {k n : Nat} {t : Txn} {x : Mx} (ht : T[i]? = some t) (hk : k < a.length) (hval : ∀ v ∈ a, 0 ≤ v ∧ v ≤ (i : Int)) (hx : Asks n x (askAll n ((i : Int) + 1) a t.signals) ((i : Int) + 1)) (hla : x.late = late) :
    allK (carF T i late a k) (ofT k (t.changes.filter (fun c => x.capt c.table))) = carF T (i + 1) late (askAll n ((i : Int) + 1) a t.signals) k := by
  have hg : a[k]? = some a[k] := List.getElem?_eq_getElem hk
  obtain ⟨v', hv', h1, h2⟩ := ask_keep n ((i : Int) + 1) k t.signals a a[k] hg
  obtain ⟨h3, h4⟩ := hval _ (List.getElem_mem hk)
  have hc := hx.capt k v' hv'
  rw [hla] at hc
  rw [ofT_capt, hc]
  unfold carF fromA
  rw [hg, hv', Option.getD_some, Option.getD_some]
  cases hl : lateB late (k : Int) with
  | false =>
    rw [show (if (false : Bool) = true then a[k] else (1 : Int)) = 1 from rfl, show (if (false : Bool) = true then v' else (1 : Int)) = 1 from rfl, show (!false || !(v' == 0)) = true by simp, if_neg (show ¬ (1 : Int) = 0 by decide), if_pos (rfl : true = true), if_neg (show ¬ (1 : Int) = 0 by decide), ← allK_app, ← ofT_app]
    rw [show ((1 : Int) - 1).toNat = 0 from rfl, take_drop_snoc ht (Nat.zero_le _), List.flatMap_append]
    simp
  | true =>
    rw [if_pos rfl, if_pos rfl, Bool.not_true, Bool.false_or]
    by_cases hz : a[k] = 0
    · rw [hz] at h2
      rw [if_pos hz]
      rcases h2 with h2 | h2
      · rw [if_pos h2, h2]
        rw [if_neg (by decide)]
        rfl
      · have hn : ¬ v' = 0 := by omega
        have hb : (!(v' == 0)) = true := by simpa using hn
        rw [hb, if_pos (rfl : true = true), if_neg hn, h2]
        rw [show ((i : Int) + 1 - 1).toNat = i by omega, take_drop_snoc ht (Nat.le_refl _), List.drop_eq_nil_of_le (by rw [List.length_take]; omega)]
        simp
    · have h5 := h1 hz
      have hn : ¬ v' = 0 := by rw [h5]; exact hz
      have hb : (!(v' == 0)) = true := by simpa using hn
      rw [hb, if_pos (rfl : true = true), if_neg hz, if_neg hn, h5, ← allK_app, ← ofT_app]
      rw [take_drop_snoc ht (by omega), List.flatMap_append]
      simp
end Go.Proofs.Ythhpddiicnjmmaa
