/- Plain laws of items that are joined: piece by piece, and all at once. -/
import Derived.Test.YtcohheoahdbgmaaBat9
set_option linter.unusedVariables false
set_option linter.unusedSimpArgs false
namespace Go.Proofs.Ytcohheoahdbgmaa
open Go.RowKit

theorem joinV_len (l : List Item) : (joinV l).ops.length ≤ 4096 ∧ (joinV l).notes.length ≤ 256 := by
  unfold joinV
  split
  · rename_i h
    unfold joinE at h
    split at h
    · rename_i h2
      exact ⟨h2.2.2.1, h2.2.2.2⟩
    · exact absurd h (by decide)
  · exact ⟨Nat.zero_le _, Nat.zero_le _⟩

def riseFrom : Int → List Item → Bool
  | _, [] => true
  | a, x :: r => decide (a < x.lsn) && riseFrom x.lsn r
def lastFrom : Int → List Item → Int
  | a, [] => a
  | _, x :: r => lastFrom x.lsn r

theorem riseP_from : ∀ (l : List Item) (b : Bool) (a : Int), l.foldl (fun p x => (p.1 && decide (p.2 < x.lsn), x.lsn)) (b, a) = (b && riseFrom a l, lastFrom a l)
  | [], b, a => by simp [riseFrom, lastFrom]
  | x :: r, b, a => by
    rw [List.foldl_cons, riseP_from r]
    simp [riseFrom, lastFrom, Bool.and_assoc]
theorem riseL_from (l : List Item) : riseL l = riseFrom 0 l := by
  unfold riseL riseP
  rw [riseP_from]
  simp
theorem lsnL_from (l : List Item) : lsnL l = lastFrom 0 l := by
  rw [← riseP_lsn]
  unfold riseP
  rw [riseP_from]
theorem riseFrom_app : ∀ (l r : List Item) (a : Int), riseFrom a (l ++ r) = (riseFrom a l && riseFrom (lastFrom a l) r)
  | [], r, a => by simp [riseFrom, lastFrom]
  | x :: l, r, a => by simp [riseFrom, lastFrom, riseFrom_app l r, Bool.and_assoc]
theorem lastFrom_app : ∀ (l r : List Item) (a : Int), lastFrom a (l ++ r) = lastFrom (lastFrom a l) r
  | [], r, a => rfl
  | x :: l, r, a => by simp [lastFrom, lastFrom_app l r]
theorem riseFrom_le : ∀ (l : List Item) (a : Int), riseFrom a l = true → a ≤ lastFrom a l ∧ (l ≠ [] → a < lastFrom a l) ∧ ∀ x ∈ l, a < x.lsn ∧ x.lsn ≤ lastFrom a l
  | [], a, _ => ⟨Int.le_refl _, fun h => absurd rfl h, fun x h => by cases h⟩
  | x :: r, a, h => by
    simp only [riseFrom, Bool.and_eq_true, decide_eq_true_eq] at h
    have ih := riseFrom_le r x.lsn h.2
    simp only [lastFrom]
    refine ⟨by omega, fun _ => by omega, fun y hy => ?_⟩
    rcases List.mem_cons.mp hy with rfl | hy
    · exact ⟨h.1, ih.1⟩
    · have := ih.2.2 y hy
      exact ⟨by omega, this.2⟩
theorem riseFrom_mono : ∀ (l : List Item) (a b : Int), b ≤ a → riseFrom a l = true → riseFrom b l = true ∧ (l ≠ [] → lastFrom b l = lastFrom a l)
  | [], a, b, _, _ => ⟨rfl, fun h => absurd rfl h⟩
  | x :: r, a, b, hab, h => by
    simp only [riseFrom, Bool.and_eq_true, decide_eq_true_eq] at h ⊢
    exact ⟨⟨by omega, h.2⟩, fun _ => rfl⟩

theorem lastFrom_bd : ∀ (l : List Item) (a m : Int), 0 ≤ a → a ≤ m → (∀ x ∈ l, 0 ≤ x.lsn ∧ x.lsn ≤ m) → 0 ≤ lastFrom a l ∧ lastFrom a l ≤ m
  | [], a, m, h0, h1, _ => ⟨h0, h1⟩
  | x :: r, a, m, _, _, h => lastFrom_bd r x.lsn m (h x (List.mem_cons_self ..)).1 (h x (List.mem_cons_self ..)).2 (fun y hy => h y (List.mem_cons_of_mem _ hy))
theorem joinV_wf (l : List Item) : I64 (joinV l).lsn := by
  unfold joinV
  split
  · rename_i h
    unfold joinE at h
    split at h
    · rename_i h2
      show I64 (lsnL l)
      rw [lsnL_from]
      have := lastFrom_bd l 0 1099511627776 (by omega) (by omega) (fun x hx => by have := mayItem_parts (List.all_eq_true.mp h2.1 x hx); omega)
      unfold I64
      omega
    · exact absurd h (by decide)
  · show I64 (0 : Int)
    unfold I64
    omega

theorem mayOpr_mono {o : Opr} {a b : Int} (h : mayOpr o a = true) (hab : a ≤ b) : mayOpr o b = true := by
  have := mayOpr_parts h
  exact decide_eq_true ⟨by omega, by omega, by omega, by omega, by omega, by omega, by omega, this.2.2.2.2.2.2.2⟩
theorem mayNot_mono {n : Note} {a b : Int} (h : mayNot n a = true) (hab : a ≤ b) : mayNot n b = true := by
  unfold mayNot mayAcc at h ⊢
  rw [Bool.and_eq_true] at h ⊢
  refine ⟨h.1, ?_⟩
  have h2 := h.2
  split
  · rename_i hk
    rw [if_pos hk] at h2
    have := of_decide_eq_true h2
    exact decide_eq_true ⟨this.1, this.2.1, this.2.2.1, this.2.2.2.1, this.2.2.2.2.1, by omega, this.2.2.2.2.2.2⟩
  · rename_i hk
    rw [if_neg hk] at h2
    exact h2

theorem mem_opsOf {l : List Item} {o : Opr} (h : o ∈ opsOf l) : ∃ x ∈ l, o ∈ x.ops := by unfold opsOf at h; exact List.mem_flatMap.mp h
theorem mem_notesOf {l : List Item} {o : Note} (h : o ∈ notesOf l) : ∃ x ∈ l, o ∈ x.notes := by unfold notesOf at h; exact List.mem_flatMap.mp h

/-- What is joined of items that may be and rise may be. -/
theorem join_may {l : List Item} (hne : l ≠ []) (hall : l.all mayItem = true) (hr : riseFrom 0 l = true) (ho : (opsOf l).length ≤ 4096) (hn : (notesOf l).length ≤ 256) : mayItem ⟨lastFrom 0 l, opsOf l, notesOf l⟩ = true := by
  have hle := riseFrom_le l 0 hr
  have hpos := hle.2.1 hne
  have hmem : ∀ x ∈ l, mayItem x = true := fun x hx => List.all_eq_true.mp hall x hx
  have htop : lastFrom 0 l ≤ 1099511627776 := by
    obtain ⟨a, ha⟩ : ∃ a : Int, a = 0 := ⟨0, rfl⟩
    have hgo : ∀ (r : List Item) (a : Int), a ≤ 1099511627776 → (∀ x ∈ r, x.lsn ≤ 1099511627776) → lastFrom a r ≤ 1099511627776 := by
      intro r
      induction r with
      | nil => intro a h _; exact h
      | cons x r ih => intro a _ h; exact ih x.lsn (h x (List.mem_cons_self ..)) (fun y hy => h y (List.mem_cons_of_mem _ hy))
    exact hgo l 0 (by omega) (fun x hx => (mayItem_parts (hmem x hx)).2.1)
  refine mayItem_of (by show 1 ≤ lastFrom 0 l; omega) htop ho hn ?_ ?_
  · intro o h
    obtain ⟨x, hx, hox⟩ := mem_opsOf h
    exact mayOpr_mono ((mayItem_parts (hmem x hx)).2.2.2.2.1 o hox) (hle.2.2 x hx).2
  · intro o h
    obtain ⟨x, hx, hox⟩ := mem_notesOf h
    exact mayNot_mono ((mayItem_parts (hmem x hx)).2.2.2.2.2 o hox) (hle.2.2 x hx).2

theorem join_parts {l : List Item} {k : Nat} (h0 : 0 < k) (h1 : k < l.length) (hall : l.all mayItem = true) (hr : riseL l = true) (ho : (opsOf l).length ≤ 4096) (hn : (notesOf l).length ≤ 256) :
    joinE l = 0 ∧ joinE (l.take k) = 0 ∧ joinE (l.drop k) = 0 ∧ joinE [joinV (l.take k), joinV (l.drop k)] = 0 ∧ joinV [joinV (l.take k), joinV (l.drop k)] = joinV l := by
  obtain ⟨a, ha⟩ : ∃ a, a = l.take k := ⟨_, rfl⟩
  obtain ⟨b, hb⟩ : ∃ b, b = l.drop k := ⟨_, rfl⟩
  have hab : l = a ++ b := by rw [ha, hb, List.take_append_drop]
  have la : a.length ≠ 0 := by rw [ha, List.length_take]; omega
  have lb : b.length ≠ 0 := by rw [hb, List.length_drop]; omega
  rw [← ha, ← hb]
  clear ha hb
  subst hab
  have ao : opsOf (a ++ b) = opsOf a ++ opsOf b := by unfold opsOf; rw [List.flatMap_append]
  have an : notesOf (a ++ b) = notesOf a ++ notesOf b := by unfold notesOf; rw [List.flatMap_append]
  rw [List.all_append, Bool.and_eq_true] at hall
  have hr0 := hr
  rw [riseL_from, riseFrom_app, Bool.and_eq_true] at hr0
  have nea : a ≠ [] := by rintro rfl; exact la rfl
  have neb : b ≠ [] := by rintro rfl; exact lb rfl
  have hla := riseFrom_le a 0 hr0.1
  have hlb := riseFrom_le b (lastFrom 0 a) hr0.2
  have hpa := hla.2.1 nea
  have hpb := hlb.2.1 neb
  have hmb := riseFrom_mono b (lastFrom 0 a) 0 (by omega) hr0.2
  have heb := hmb.2 neb
  have ho' := ho
  have hn' := hn
  rw [ao, List.length_append] at ho'
  rw [an, List.length_append] at hn'
  have ja := joinE_ok hall.1 la (by omega) (by omega) (by rw [riseL_from]; exact hr0.1)
  have jb := joinE_ok hall.2 lb (by omega) (by omega) (by rw [riseL_from]; exact hmb.1)
  have jl := joinE_ok (l := a ++ b) (by rw [List.all_append, hall.1, hall.2]; rfl) (by rw [List.length_append]; omega) ho hn hr
  rw [lsnL_from] at ja jb jl
  have ma := join_may nea hall.1 hr0.1 (by omega) (by omega)
  have mb := join_may neb hall.2 hmb.1 (by omega) (by omega)
  rw [ja.2, jb.2]
  have jj := joinE_ok (l := [⟨lastFrom 0 a, opsOf a, notesOf a⟩, ⟨lastFrom 0 b, opsOf b, notesOf b⟩]) (by rw [List.all_cons, List.all_cons, ma, mb]; rfl) (by simp) (by simp [opsOf]; simp [opsOf] at ho'; omega) (by simp [notesOf]; simp [notesOf] at hn'; omega) (by
    rw [riseL_from]
    simp only [riseFrom, Bool.and_true, Bool.and_eq_true, decide_eq_true_eq]
    exact ⟨hpa, by rw [heb]; exact hpb⟩)
  refine ⟨jl.1, ja.1, jb.1, jj.1, ?_⟩
  rw [jj.2, jl.2, lsnL_from, lastFrom_app, heb, ao, an]
  simp [lastFrom, opsOf, notesOf]
end Go.Proofs.Ytcohheoahdbgmaa
