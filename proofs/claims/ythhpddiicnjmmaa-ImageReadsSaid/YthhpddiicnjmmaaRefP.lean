/- Contracts of the reference that changes share (qanatref07): MayChange, Flag, ChangeFields; fields in a row. Taken out of the texts Txn1 to Txn9. -/
import Derived.Test.YthhpddiicnjmmaaPce2
import Derived.Test.YthhpddiicnjmmaaTypesM
import Derived.Test.YthhpddiicnjmmaaBlk
import Derived.Deep.RegionHeld3
set_option linter.unusedVariables false
namespace Go.Proofs.Ythhpddiicnjmmaa
open Go.RowKit

/-- May a change be, among so many tables? -/
def mayChg (c : Chg) (t : Int) : Bool := decide (0 ≤ c.table ∧ c.table < t ∧ 1 ≤ c.key ∧ c.key ≤ 1099511627776 ∧ c.val.size ≤ 32 ∧ (c.gone = false ∨ c.val.size = 0))

theorem str_nil (s : ByteArray) (h : s.size = 0) : s = ⟨#[]⟩ := by
  obtain ⟨⟨l⟩⟩ := s
  cases l with
  | nil => rfl
  | cons a t => simp [ByteArray.size] at h

set_option maxRecDepth 100000 in
set_option maxHeartbeats 4000000 in
theorem refmayChange_any (c : Chg) (t : Int) (w : World) :
    Calls Try.prog 142 #[.agg #[.int .i64 c.table, .int .i64 c.key, .bool c.gone, .string c.val], .int .i64 t] w fun e w' => e = .returned (.bool (mayChg c t)) ∧ Below w.heap.size w w' := by
  obtain ⟨ct, ck, cg, cv⟩ := c
  have hcases : ct < 0 ∨ (0 ≤ ct ∧ t ≤ ct) ∨ (0 ≤ ct ∧ ct < t ∧ ck < 1) ∨ (0 ≤ ct ∧ ct < t ∧ 1 ≤ ck ∧ 1099511627776 < ck) ∨ (0 ≤ ct ∧ ct < t ∧ 1 ≤ ck ∧ ck ≤ 1099511627776 ∧ 32 < cv.size) ∨ (0 ≤ ct ∧ ct < t ∧ 1 ≤ ck ∧ ck ≤ 1099511627776 ∧ cv.size ≤ 32 ∧ cv.size = 0) ∨ (0 ≤ ct ∧ ct < t ∧ 1 ≤ ck ∧ ck ≤ 1099511627776 ∧ cv.size ≤ 32 ∧ ¬ cv.size = 0) := by omega
  rcases hcases with h1 | ⟨h1, h2⟩ | ⟨h1, h2, h3⟩ | ⟨h1, h2, h3, h4⟩ | ⟨h1, h2, h3, h4, h5⟩ | ⟨h1, h2, h3, h4, h5, h6⟩ | ⟨h1, h2, h3, h4, h5, h6⟩
  · have HM := Lib.hid (show mayChg ⟨ct, ck, cg, cv⟩ t = false from decide_eq_false (by dsimp only; omega))
    go_enter Try.func142, Try.ntmps142
    go_wp2
    go_ret
    rw [HM.out]
    exact ⟨rfl, (Below.refl _ _).alloc (Nat.le_refl _) _⟩
  · have HM := Lib.hid (show mayChg ⟨ct, ck, cg, cv⟩ t = false from decide_eq_false (by dsimp only; omega))
    have hb3 : decide (ct < 0) = false := by simp; omega
    have hb4 : decide (0 ≤ ct) = true := by simp; omega
    have hb1 : decide (t ≤ ct) = true := by simp; omega
    have hb2 : decide (ct < t) = false := by simp; omega
    go_enter Try.func142, Try.ntmps142
    go_wp2
    go_ret
    rw [HM.out]
    exact ⟨rfl, (Below.refl _ _).alloc (Nat.le_refl _) _⟩
  · have HM := Lib.hid (show mayChg ⟨ct, ck, cg, cv⟩ t = false from decide_eq_false (by dsimp only; omega))
    have hb3 : decide (ct < 0) = false := by simp; omega
    have hb4 : decide (0 ≤ ct) = true := by simp; omega
    have hb5 : decide (ck < 1) = true := by simp; omega
    have hb6 : decide (1 ≤ ck) = false := by simp; omega
    have hb1 : decide (t ≤ ct) = false := by simp; omega
    have hb2 : decide (ct < t) = true := by simp; omega
    go_enter Try.func142, Try.ntmps142
    go_wp2
    go_ret
    rw [HM.out]
    exact ⟨rfl, (Below.refl _ _).alloc (Nat.le_refl _) _⟩
  · have HM := Lib.hid (show mayChg ⟨ct, ck, cg, cv⟩ t = false from decide_eq_false (by dsimp only; omega))
    have hb3 : decide (ct < 0) = false := by simp; omega
    have hb4 : decide (0 ≤ ct) = true := by simp; omega
    have hb5 : decide (ck < 1) = false := by simp; omega
    have hb6 : decide (1 ≤ ck) = true := by simp; omega
    have hb7 : decide (1099511627776 < ck) = true := by simp; omega
    have hb8 : decide (ck ≤ 1099511627776) = false := by simp; omega
    have hb1 : decide (t ≤ ct) = false := by simp; omega
    have hb2 : decide (ct < t) = true := by simp; omega
    go_enter Try.func142, Try.ntmps142
    go_wp2
    go_ret
    rw [HM.out]
    exact ⟨rfl, (Below.refl _ _).alloc (Nat.le_refl _) _⟩
  · have HM := Lib.hid (show mayChg ⟨ct, ck, cg, cv⟩ t = false from decide_eq_false (by dsimp only; omega))
    have hb3 : decide (ct < 0) = false := by simp; omega
    have hb4 : decide (0 ≤ ct) = true := by simp; omega
    have hb5 : decide (ck < 1) = false := by simp; omega
    have hb6 : decide (1 ≤ ck) = true := by simp; omega
    have hb7 : decide (1099511627776 < ck) = false := by simp; omega
    have hb8 : decide (ck ≤ 1099511627776) = true := by simp; omega
    have hb9 : decide ((cv.size : Int) ≤ 32) = false := by simp; omega
    have hb10 : decide (cv.size ≤ 32) = false := by simp; omega
    have hb1 : decide (t ≤ ct) = false := by simp; omega
    have hb2 : decide (ct < t) = true := by simp; omega
    go_enter Try.func142, Try.ntmps142
    go_wp2
    go_ret
    rw [HM.out]
    exact ⟨rfl, (Below.refl _ _).alloc (Nat.le_refl _) _⟩
  · obtain rfl := str_nil cv h6
    have hb3 : decide (ct < 0) = false := by simp; omega
    have hb4 : decide (0 ≤ ct) = true := by simp; omega
    have hb5 : decide (ck < 1) = false := by simp; omega
    have hb6 : decide (1 ≤ ck) = true := by simp; omega
    have hb7 : decide (1099511627776 < ck) = false := by simp; omega
    have hb8 : decide (ck ≤ 1099511627776) = true := by simp; omega
    have hb1 : decide (t ≤ ct) = false := by simp; omega
    have hb2 : decide (ct < t) = true := by simp; omega
    have HM := Lib.hid (show mayChg ⟨ct, ck, cg, ⟨#[]⟩⟩ t = true from decide_eq_true ⟨h1, h2, h3, h4, h5, .inr h6⟩)
    clear h5 h6
    cases cg
    · go_enter Try.func142, Try.ntmps142
      go_wp2
      go_ret
      rw [HM.out]
      exact ⟨rfl, (Below.refl _ _).alloc (Nat.le_refl _) _⟩
    · go_enter Try.func142, Try.ntmps142
      go_wp2
      go_ret
      rw [HM.out]
      exact ⟨rfl, (Below.refl _ _).alloc (Nat.le_refl _) _⟩
  · have h7 : cv.toList.isEmpty = false := by rw [str_empty]; simpa using h6
    have hb3 : decide (ct < 0) = false := by simp; omega
    have hb4 : decide (0 ≤ ct) = true := by simp; omega
    have hb5 : decide (ck < 1) = false := by simp; omega
    have hb6 : decide (1 ≤ ck) = true := by simp; omega
    have hb7 : decide (1099511627776 < ck) = false := by simp; omega
    have hb8 : decide (ck ≤ 1099511627776) = true := by simp; omega
    have hb9 : decide ((cv.size : Int) ≤ 32) = true := by simp; omega
    have hb10 : decide (cv.size ≤ 32) = true := by simp; omega
    have hb1 : decide (t ≤ ct) = false := by simp; omega
    have hb2 : decide (ct < t) = true := by simp; omega
    cases cg
    · have HM := Lib.hid (show mayChg ⟨ct, ck, false, cv⟩ t = true from decide_eq_true ⟨h1, h2, h3, h4, h5, .inl rfl⟩)
      clear h6
      go_enter Try.func142, Try.ntmps142
      go_wp2
      go_ret
      rw [HM.out]
      exact ⟨rfl, (Below.refl _ _).alloc (Nat.le_refl _) _⟩
    · have HM := Lib.hid (show mayChg ⟨ct, ck, true, cv⟩ t = false from decide_eq_false (by rintro ⟨_, _, _, _, _, h | h⟩ <;> first | cases h | exact h6 h))
      clear h6
      go_enter Try.func142, Try.ntmps142
      go_wp2
      go_ret
      rw [HM.out]
      exact ⟨rfl, (Below.refl _ _).alloc (Nat.le_refl _) _⟩

theorem IsSl.str {w w' : World} {B n k : Nat} {A : Option Addr} {l : List ByteArray} (h : IsSl strRep w (· < B) A n l) (hk : k < n) (hw : ∀ p : Addr, p.block < B → w'.cell? p = w.cell? p) :
    ∃ b off x, A = some ⟨b, off, none⟩ ∧ b < B ∧ l[k]? = some x ∧ x.size ≤ maxLen ∧ w'.cell? ⟨b, off + k, none⟩ = some (.string x) := by
  obtain ⟨b, off, x, cs, rfl, hb, hx, ⟨rfl, hw2⟩, hc⟩ := h.at_ hk
  have h0 := hc 0 _ rfl
  rw [show off + k * strRep.size + 0 = off + k by show off + k * 1 + 0 = _; omega] at h0
  exact ⟨b, off, x, rfl, hb, hx, hw2, (hw _ hb).trans h0⟩

theorem all_stop {α : Type} {p : α → Bool} {l : List α} {k : Nat} {x : α} (hx : l[k]? = some x) (hp : p x = false) : l.all p = false := by
  cases h : l.all p
  · rfl
  · have := List.all_eq_true.1 h x (List.mem_of_getElem? hx)
    rw [hp] at this
    cases this

theorem all_step {α : Type} {p : α → Bool} {l : List α} {k : Nat} {x : α} (hx : l[k]? = some x) (hp : p x = true) (h : (l.take k).all p = true) : (l.take (k + 1)).all p = true := by
  rw [take_snoc hx, List.all_append, h]
  simp [hp]

theorem all_done {α : Type} {p : α → Bool} {l : List α} {k : Nat} (hk : l.length ≤ k) (h : (l.take k).all p = true) : l.all p = true := by
  rwa [List.take_of_length_le hk] at h

/-- A change's fields. -/
def chgF (c : Chg) : List Fld := [numF c.table, numF c.key, numF (bitI c.gone), txtF c.val]

theorem bitI_wf (b : Bool) : I64 (bitI b) := by cases b <;> (unfold bitI I64; simp)

theorem flat_ints (l : List Int) : (l.map (fun x => [Value.int .i64 x])).flatten = l.map (Value.int .i64) := by
  induction l with
  | nil => rfl
  | cons a t ih => simp [ih]

theorem IsSl.newInts {w : World} {S : Nat → Prop} {t : TypeId} (l : List Int) (hw : ∀ x ∈ l, I64 x) {cs : Array Value} (hcs : cs = (l.map (Value.int .i64)).toArray) {n : Nat} (hn : n = l.length) (hS : S w.heap.size) : IsSl intRep (w.alloc (.cells cs t)) S (some ⟨w.heap.size, 0, none⟩) n l := by
  subst hcs
  refine ⟨hn, l.map (fun x => [Value.int .i64 x]), ⟨by simp, fun k a cs ha hc => ?_⟩, fun _ => ⟨_, 0, rfl, hS, fun j u hu => ?_⟩⟩
  · rw [List.getElem?_map, ha] at hc
    exact ⟨(Option.some.inj hc).symm, hw a (List.mem_of_getElem? ha)⟩
  · rw [flat_ints] at hu
    rw [Nat.zero_add, World.cell?_alloc_at _ _ _ _ rfl]
    simpa using hu

theorem flatMap_snoc {α β : Type} {f : α → List β} {l : List α} {k : Nat} {x : α} (h : l[k]? = some x) : (l.take (k + 1)).flatMap f = (l.take k).flatMap f ++ f x := by
  rw [take_snoc h, List.flatMap_append]
  simp

theorem chgF_len (l : List Chg) : (l.flatMap chgF).length = 4 * l.length := by
  induction l with
  | nil => rfl
  | cons a t ih => rw [List.flatMap_cons, List.length_append, ih, List.length_cons]; show 4 + _ = _; omega

/-- Fields just laid into a block of their own. -/
theorem IsSl.newFlds {w : World} {S : Nat → Prop} {t : TypeId} (l : List Fld) (hw : ∀ x ∈ l, x.wf) {cs : Array Value} (hcs : cs = ((l.map Fld.cells).flatten).toArray) {n : Nat} (hn : n = l.length) (hS : S w.heap.size) : IsSl fldRep (w.alloc (.cells cs t)) S (some ⟨w.heap.size, 0, none⟩) n l := by
  subst hcs
  refine ⟨hn, l.map Fld.cells, ⟨by simp, fun k a cs ha hc => ?_⟩, fun _ => ⟨_, 0, rfl, hS, fun j u hu => ?_⟩⟩
  · rw [List.getElem?_map, ha] at hc
    exact ⟨(Option.some.inj hc).symm, hw a (List.mem_of_getElem? ha)⟩
  · rw [Nat.zero_add, World.cell?_alloc_at _ _ _ _ rfl]
    simpa using hu

theorem bcell {W w1 : World} (hb : Below W.heap.size W w1) : (∀ b o, b < W.heap.size → w1.cell? ⟨b, o, none⟩ = W.cell? ⟨b, o, none⟩) ∧ (∀ b o, b < W.heap.size → w1.frozen? ⟨b, o, none⟩ = W.frozen? ⟨b, o, none⟩) :=
  ⟨fun b o h => hb.cell (p := ⟨b, o, none⟩) h, fun b o h => hb.frozen (p := ⟨b, o, none⟩) h⟩


theorem chgF_wf {c : Chg} (h : c.wf) : ∀ x ∈ chgF c, x.wf := by
  obtain ⟨h1, h2, h3⟩ := h
  intro x hx
  simp only [chgF, List.mem_cons, List.not_mem_nil, or_false] at hx
  rcases hx with rfl | rfl | rfl | rfl
  · exact numF_wf h1
  · exact numF_wf h2
  · exact numF_wf (bitI_wf _)
  · exact txtF_wf h3


/-- A literal of fields is owned. -/
theorem Own.litF {w : World} {base : Nat} {t : TypeId} (l : List Fld) (hw : ∀ x ∈ l, x.wf) {cs : Array Value} (hcs : cs = ((l.map Fld.cells).flatten).toArray) {n : Nat} (hn : n = l.length) (hb : base ≤ w.heap.size) (hm : l.length ≤ maxLen) :
    Own fldRep (w.alloc (.cells cs t)) base (fun _ => False) t (.slice (some ⟨w.heap.size, 0, none⟩) n n) l := by
  subst hn
  have hr : Rows fldRep (w.alloc (.cells cs t)) (fun _ => False) l (l.map Fld.cells) := ⟨by simp, fun k a c ha hc => by
    rw [List.getElem?_map, ha] at hc
    exact ⟨(Option.some.inj hc).symm, hw a (List.mem_of_getElem? ha)⟩⟩
  have hfl := hr.flat_len
  refine ⟨fun _ h => h.elim, .inr ⟨w.heap.size, l.length, cs, _, rfl, hb, fun h => h, heap_alloc_new w _, Nat.le_refl _, hm, ?_, hr, ?_⟩⟩
  · rw [hcs, List.size_toArray, hfl]
  · rw [hcs, ← hfl, List.take_of_length_le (Nat.le_refl _)]

theorem wf_map {l : List Int} (h : ∀ x ∈ l, I64 x) : ∀ x ∈ l.map numF, x.wf := by
  intro x hx
  obtain ⟨y, hy, rfl⟩ := List.mem_map.1 hx
  exact numF_wf (h y hy)

def wfL (l : List Fld) : Prop := ∀ f ∈ l, f.wf

theorem fld0_wf : fld0.wf := ⟨by unfold I64 fld0; simp, by unfold I64 fld0; simp, by show 0 ≤ _; omega⟩

theorem nextP_wf {l : List Fld} (h : wfL l) (bad : Bool) (k : Int) : (nextP l bad k).1.wf ∧ wfL (nextP l bad k).2.1 := by
  cases bad
  · cases l with
    | nil => exact ⟨fld0_wf, h⟩
    | cons f r =>
      show (if f.kind = k then (f, r, false) else (fld0, f :: r, true) : Fld × List Fld × Bool).1.wf ∧ wfL (if f.kind = k then (f, r, false) else (fld0, f :: r, true) : Fld × List Fld × Bool).2.1
      split
      · exact ⟨h f (List.mem_cons_self ..), fun x hx => h x (List.mem_cons_of_mem _ hx)⟩
      · exact ⟨fld0_wf, h⟩
  · exact ⟨fld0_wf, h⟩

theorem intP_wf {l : List Fld} (h : wfL l) (bad : Bool) : I64 (intP l bad).1 ∧ wfL (intP l bad).2.1 := ⟨(nextP_wf h bad 1).1.2.1, (nextP_wf h bad 1).2⟩

theorem textP_wf {l : List Fld} (h : wfL l) (bad : Bool) : (textP l bad).1.size ≤ maxLen ∧ wfL (textP l bad).2.1 := ⟨(nextP_wf h bad 2).1.2.2, (nextP_wf h bad 2).2⟩

theorem smallP_wf {l : List Fld} (h : wfL l) (bad : Bool) (m : Int) (hm : 0 ≤ m) : 0 ≤ (smallP l bad m).1 ∧ (smallP l bad m).1 ≤ m ∧ wfL (smallP l bad m).2.1 := by
  have h1 := intP_wf h bad
  unfold smallP
  split
  · exact ⟨Int.le_refl _, hm, h1.2⟩
  · exact ⟨by omega, by omega, h1.2⟩

theorem bitP_wf {l : List Fld} (h : wfL l) (bad : Bool) : wfL (bitP l bad).2.1 := (smallP_wf h bad 1 (by omega)).2.2

theorem PRd.drew {w : World} {B g : Nat} {l : List Fld} {bad : Bool} (h : PRd w B g l bad) : PRd w.drew B g l bad := h

theorem Own.isSlR {α : Type} {R : Rep α} {w : World} {base : Nat} {e : TypeId} {v : Value} {l : List α} (h : Own R w base (fun _ => False) e v l) : ∃ A cap, v = .slice A l.length cap ∧ l.length ≤ cap ∧ cap ≤ maxLen ∧ IsSl R w (fun b => base ≤ b ∧ b < w.heap.size) A l.length l :=
  h.isSl (fun _ h => h.elim) (fun _ h1 h2 => ⟨h1, h2⟩)

theorem IsSl.wfL {w : World} {S : Nat → Prop} {A : Option Addr} {n : Nat} {l : List Fld} (h : IsSl fldRep w S A n l) : wfL l := by
  intro f hf
  obtain ⟨k, hk, rfl⟩ := List.mem_iff_getElem.1 hf
  obtain ⟨_, _, x, _, _, _, hx, ⟨_, hw⟩, _⟩ := h.at_ (k := k) (by rw [h.len]; exact hk)
  rw [List.getElem?_eq_getElem hk] at hx
  rw [Option.some.inj hx]
  exact hw

end Go.Proofs.Ythhpddiicnjmmaa
