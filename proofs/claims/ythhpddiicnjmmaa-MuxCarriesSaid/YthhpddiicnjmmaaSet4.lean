/- Contracts of the reference's Set (qanatref07): NewSet, Is, Rows, Apply. -/
import Derived.Test.YthhpddiicnjmmaaSet3
import Derived.Test.YthhpddiicnjmmaaMake
set_option linter.unusedVariables false
set_option linter.unusedSimpArgs false
set_option maxRecDepth 100000
namespace Go.Proofs.Ythhpddiicnjmmaa
open Go.RowKit

/-- A set of tables at block gs, their slices at block bt, their rows in U. -/
structure SetAt (w : World) (U : Nat → Prop) (gs bt : Nat) (tabs : List (List Row)) : Prop where
  blk : Blk w gs [.slice (some ⟨bt, 0, none⟩) tabs.length tabs.length]
  tab : ∃ vs : List Value, Blk w bt vs ∧ vs.length = tabs.length ∧ ∀ (t : Nat) (l : List Row), tabs[t]? = some l → ∃ A m c, vs[t]? = some (.slice A m c) ∧ IsSl rowRep w U A m l ∧ m ≤ c ∧ c ≤ maxLen
  hU : ∀ k, U k → k < w.heap.size
  ng : ¬ U gs ∧ ¬ U bt ∧ gs ≠ bt

theorem SetAt.lt {w : World} {U : Nat → Prop} {gs bt : Nat} {tabs : List (List Row)} (h : SetAt w U gs bt tabs) : gs < w.heap.size ∧ bt < w.heap.size := by
  obtain ⟨vs, hb, _⟩ := h.tab
  exact ⟨h.blk.lt, hb.lt⟩
theorem SetAt.below {w w' : World} {U : Nat → Prop} {gs bt : Nat} {tabs : List (List Row)} (h : SetAt w U gs bt tabs) (hb : Below w.heap.size w w') : SetAt w' U gs bt tabs := by
  obtain ⟨vs, h1, h2, h3⟩ := h.tab
  refine ⟨h.blk.after hb, ⟨vs, h1.after hb, h2, fun t l hl => ?_⟩, fun k hk => Nat.lt_of_lt_of_le (h.hU k hk) hb.size, h.ng⟩
  obtain ⟨A, m, c, hv, sl, hc, hm⟩ := h3 t l hl
  exact ⟨A, m, c, hv, sl.keep (fun p hp => hb.cell (h.hU _ hp)), hc, hm⟩
theorem SetAt.rest {w w' : World} {S U : Nat → Prop} {gs bt : Nat} {tabs : List (List Row)} (h : SetAt w U gs bt tabs) (r : Rest S w w') (hU : ∀ k, U k → S k) (h1 : S gs) (h2 : S bt) : SetAt w' U gs bt tabs := by
  obtain ⟨vs, k1, k2, k3⟩ := h.tab
  refine ⟨h.blk.rest r h1, ⟨vs, k1.rest r h2, k2, fun t l hl => ?_⟩, fun k hk => Nat.lt_of_lt_of_le (h.hU k hk) r.size, h.ng⟩
  obtain ⟨A, m, c, hv, sl, hc, hm⟩ := k3 t l hl
  exact ⟨A, m, c, hv, sl.rest r hU, hc, hm⟩
/-- One table is another one. -/
theorem SetAt.put {w w' : World} {U : Nat → Prop} {gs bt t : Nat} {tabs : List (List Row)} {A : Option Addr} {m c : Nat} {l : List Row} (h : SetAt w U gs bt tabs) (hb : Below w.heap.size w w') (ht : t < tabs.length) (sl : IsSl rowRep w' (fun k => U k ∨ (w.heap.size ≤ k ∧ k < w'.heap.size)) A m l) (hc : m ≤ c) (hm : c ≤ maxLen) :
    SetAt (w'.setCell ⟨bt, t, none⟩ (.slice A m c)) (fun k => U k ∨ (w.heap.size ≤ k ∧ k < w'.heap.size)) gs bt (tabs.set t l) := by
  obtain ⟨vs, h1, h2, h3⟩ := h.tab
  have hlt := h.lt
  have ng : ∀ b, b < w.heap.size → ¬ U b → ¬ (U b ∨ (w.heap.size ≤ b ∧ b < w'.heap.size)) := fun b hb hn e => e.elim hn (fun e => by omega)
  refine ⟨?_, ⟨vs.set t (.slice A m c), (h1.after hb).put (by rw [h2]; exact ht) _ rfl, by rw [List.length_set, List.length_set, h2], fun t' l' hl => ?_⟩, fun k hk => ?_, ng _ hlt.1 h.ng.1, ng _ hlt.2 h.ng.2.1, h.ng.2.2⟩
  · rw [List.length_set]
    exact (h.blk.after hb).other h.ng.2.2 t _
  · have hk : ∀ p : Addr, (U p.block ∨ (w.heap.size ≤ p.block ∧ p.block < w'.heap.size)) → (w'.setCell ⟨bt, t, none⟩ (.slice A m c)).cell? p = w'.cell? p := fun p hp => World.cell?_setCell_far w' _ _ _ (fun e => ng bt hlt.2 h.ng.2.1 (by have e' : bt = p.block := e; rw [e']; exact hp))
    by_cases e : t = t'
    · subst e
      rw [List.getElem?_set_self (by exact ht)] at hl
      obtain rfl := Option.some.inj hl
      exact ⟨A, m, c, List.getElem?_set_self (by rw [h2]; exact ht), sl.keep (fun p hp => hk p hp), hc, hm⟩
    · rw [List.getElem?_set_ne e] at hl
      obtain ⟨A', m', c', hv, sl', hc', hm'⟩ := h3 t' l' hl
      exact ⟨A', m', c', by rw [List.getElem?_set_ne e]; exact hv, (sl'.keep (fun p hp => hb.cell (h.hU _ hp))).weak (fun k hk => .inl hk) |>.keep (fun p hp => hk p hp), hc', hm'⟩
  · rcases hk with hk | hk
    · exact Nat.lt_of_lt_of_le (h.hU k hk) (by simpa using hb.size)
    · simpa using hk.2

theorem SetAt.drew {w : World} {U : Nat → Prop} {gs bt : Nat} {tabs : List (List Row)} (h : SetAt w U gs bt tabs) : SetAt w.drew U gs bt tabs := h.below ⟨rfl, rfl, rfl, Nat.le_refl _, fun _ _ => rfl⟩

def inSet (tabs : List (List Row)) (t : Int) : Bool := decide (0 ≤ t ∧ t < (tabs.length : Int))
def setPut (tabs : List (List Row)) (c : Chg) : List (List Row) :=
  let l := (tabs[c.table.toNat]?).getD []
  tabs.set c.table.toNat (if c.gone = true then delL l c.key else putL l c.key c.val)
def setAll (tabs : List (List Row)) (l : List Chg) : List (List Row) := l.foldl setPut tabs
theorem setPut_len (tabs : List (List Row)) (c : Chg) : (setPut tabs c).length = tabs.length := by unfold setPut; simp
theorem setAll_len : ∀ (l : List Chg) (tabs : List (List Row)), (setAll tabs l).length = tabs.length
  | [], _ => rfl
  | c :: t, tabs => by
    show (setAll (setPut tabs c) t).length = _
    rw [setAll_len t, setPut_len]
theorem setAll_snoc (l : List Chg) (c : Chg) (tabs : List (List Row)) : setAll tabs (l ++ [c]) = setPut (setAll tabs l) c := by unfold setAll; rw [List.foldl_append]; rfl
theorem delL_len : ∀ (l : List Row) (k : Int), (delL l k).length ≤ l.length
  | [], _ => Nat.le_refl _
  | r :: t, k => by
    rw [delL]
    split
    · simp
    · have := delL_len t k; simp; omega
theorem setPut_small (tabs : List (List Row)) (c : Chg) (b : Nat) (h : ∀ l ∈ tabs, l.length ≤ b) : ∀ l ∈ setPut tabs c, l.length ≤ b + 1 := by
  intro l hl
  unfold setPut at hl
  rcases List.mem_or_eq_of_mem_set hl with hl | hl
  · have := h l hl; omega
  · have hb : ((tabs[c.table.toNat]?).getD []).length ≤ b := by
      cases e : tabs[c.table.toNat]? with
      | none => simp
      | some x => exact h x (List.mem_of_getElem? e)
    subst hl
    split
    · have := delL_len ((tabs[c.table.toNat]?).getD []) c.key; omega
    · have := putL_len ((tabs[c.table.toNat]?).getD []) c.key c.val; omega
theorem setAll_small : ∀ (l : List Chg) (tabs : List (List Row)) (b : Nat), (∀ x ∈ tabs, x.length ≤ b) → ∀ x ∈ setAll tabs l, x.length ≤ b + l.length
  | [], _, _, h => h
  | c :: t, tabs, b, h => by
    intro x hx
    have := setAll_small t (setPut tabs c) (b + 1) (setPut_small tabs c b h) x hx
    simp; omega

set_option maxHeartbeats 2000000 in
set_option maxRecDepth 100000 in
theorem refsetis_any (gs bt : Nat) (U : Nat → Prop) (tabs : List (List Row)) (t : Int) (w : World) (h : SetAt w U gs bt tabs) (hl : tabs.length ≤ 100000) :
    Calls Try.prog 88 #[.pointer (some ⟨gs, 0, none⟩), .int .i64 t] w fun e w' => e = .returned (.bool (inSet tabs t)) ∧ w = w' := by
  have c0 := h.blk.1 0 _ rfl
  have HI := Lib.hid (show inSet tabs t = decide (0 ≤ t ∧ t < (tabs.length : Int)) from rfl)
  obtain ⟨n, hn⟩ : ∃ n, n = tabs.length := ⟨_, rfl⟩
  rw [← hn] at c0 hl HI
  clear hn h
  by_cases h0 : 0 ≤ t
  · have d0 : decide (0 ≤ t) = true := decide_eq_true h0
    by_cases h1 : t < (n : Int)
    · have d1 : decide (t < (n : Int)) = true := decide_eq_true h1
      have HX := Lib.hid (show inSet tabs t = true by rw [HI.out]; exact decide_eq_true ⟨h0, h1⟩)
      clear h0 h1
      go_enter Try.func88, Try.ntmps88
      go_wp2
      go_ret
      rw [HX.out]
      exact ⟨rfl, rfl⟩
    · have d1 : decide (t < (n : Int)) = false := decide_eq_false h1
      have HX := Lib.hid (show inSet tabs t = false by rw [HI.out]; exact decide_eq_false (fun h => h1 h.2))
      clear h0 h1
      go_enter Try.func88, Try.ntmps88
      go_wp2
      go_ret
      rw [HX.out]
      exact ⟨rfl, rfl⟩
  · have d0 : decide (0 ≤ t) = false := decide_eq_false h0
    have HX := Lib.hid (show inSet tabs t = false by rw [HI.out]; exact decide_eq_false (fun h => h0 h.1))
    clear h0
    go_enter Try.func88, Try.ntmps88
    go_wp2
    go_ret
    rw [HX.out]
    exact ⟨rfl, rfl⟩

end Go.Proofs.Ythhpddiicnjmmaa
