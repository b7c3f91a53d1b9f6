/- Words for rows that changes hit: what See leaves, as a filter; a list of changes, element by element. -/
import Derived.Test.YthhpddiicnjmmaaWinB
set_option linter.unusedVariables false
set_option linter.unusedSimpArgs false
set_option maxRecDepth 100000
namespace Go.Proofs.Ythhpddiicnjmmaa
open Go.RowKit

theorem Own.slIn {α : Type} {R : Rep α} {w : World} {base : Nat} {S' : Nat → Prop} {e : TypeId} {A : Option Addr} {n c : Nat} {l : List α} (h : Own R w base (fun _ => False) e (.slice A n c) l) (hg : ∀ g, base ≤ g → g < w.heap.size → S' g) : IsSl R w S' A n l := by
  obtain ⟨A', c', hv, _, _, sl⟩ := h.isSl (S' := S') (fun _ h => h.elim) hg
  injection hv with h1 h2 h3
  subst h1 h2
  exact sl

/-- Is a row of table t changed by one of these? -/
def hitB (t : Int) (c : List Chg) (x : Row) : Bool := c.any (fun y => decide (y.table = t ∧ y.key = x.key))

theorem seeL_filter (t : Int) : ∀ (c : List Chg) (rs : List Row), seeL t c rs = rs.filter (fun x => !hitB t c x)
  | [], rs => by
    rw [seeL]
    symm
    exact List.filter_eq_self.2 (fun x _ => rfl)
  | y :: c, rs => by
    rw [seeL, seeL_filter t c]
    by_cases h : y.table = t
    · rw [if_pos h, List.filter_filter]
      congr 1
      funext x
      by_cases e : y.key = x.key
      · simp [hitB, keepK, h, e]
      · have e2 : ¬ x.key = y.key := fun h => e h.symm
        simp [hitB, keepK, h, e, e2]
    · rw [if_neg h]
      congr 1
      funext x
      simp [hitB, h]

theorem hitB_snoc (t : Int) (c : List Chg) (y : Chg) (x : Row) : hitB t (c ++ [y]) x = (hitB t c x || decide (y.table = t ∧ y.key = x.key)) := by
  unfold hitB; rw [List.any_append]; simp

/-- What is not hit, as ops. -/
def wantL (lsn t : Int) (c : List Chg) (rs : List Row) : List Opr := (rs.filter (fun x => !hitB t c x)).map (opOf lsn t)
theorem wantL_snoc (lsn t : Int) (c : List Chg) (rs : List Row) (x : Row) : wantL lsn t c (rs ++ [x]) = if hitB t c x = true then wantL lsn t c rs else wantL lsn t c rs ++ [opOf lsn t x] := by
  unfold wantL
  rw [List.filter_append, List.map_append]
  by_cases h : hitB t c x = true
  · simp [h]
  · simp [h]

theorem IsSl.chgc {w w' : World} {T : Nat → Prop} {n k : Nat} {A : Option Addr} {l : List Chg} (h : IsSl chgRep w T A n l) (hk : k < n) (hw : ∀ p : Addr, T p.block → w'.cell? p = w.cell? p) :
    ∃ b off ct ck cg cv, A = some ⟨b, off, none⟩ ∧ T b ∧ l[k]? = some ⟨ct, ck, cg, cv⟩ ∧ Chg.wf ⟨ct, ck, cg, cv⟩ ∧ w'.cell? ⟨b, off + k * 4, none⟩ = some (.int .i64 ct) ∧ w'.cell? ⟨b, off + k * 4 + 1, none⟩ = some (.int .i64 ck) ∧ w'.cell? ⟨b, off + k * 4 + 2, none⟩ = some (.bool cg) ∧ w'.cell? ⟨b, off + k * 4 + 3, none⟩ = some (.string cv) := by
  obtain ⟨b, off, ⟨ct, ck, cg, cv⟩, cs, rfl, hb, hx, ⟨rfl, hw2⟩, hc⟩ := h.at_ hk
  exact ⟨b, off, ct, ck, cg, cv, rfl, hb, hx, hw2, (hw _ hb).trans (hc 0 _ rfl), (hw _ hb).trans (hc 1 _ rfl), (hw _ hb).trans (hc 2 _ rfl), (hw _ hb).trans (hc 3 _ rfl)⟩

theorem IsSl.wfs_row {w : World} {S : Nat → Prop} {A : Option Addr} {n : Nat} {l : List Row} (h : IsSl rowRep w S A n l) : ∀ r ∈ l, r.wf := by
  intro r hr
  obtain ⟨k, hk, rfl⟩ := List.mem_iff_getElem.1 hr
  obtain ⟨_, _, x, _, _, hx, hw, _, _⟩ := h.row (k := k) (by rw [h.len]; exact hk) (fun _ _ => rfl)
  rw [List.getElem?_eq_getElem hk] at hx
  injection hx with hx
  rw [hx]
  exact hw
end Go.Proofs.Ythhpddiicnjmmaa
