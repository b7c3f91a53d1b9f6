/- Contracts: the reference's Flag, ChangeFields. -/
import Derived.Test.YtojjeogpggielaaTxn5
set_option linter.unusedVariables false
namespace Go.Proofs.Ytojjeogpggielaa
open Go.RowKit

/-- Fields just laid into a block of their own. -/
theorem IsSl.newFlds {w : World} {S : Nat → Prop} {t : TypeId} (l : List Fld) (hw : ∀ x ∈ l, x.wf) {cs : Array Value} (hcs : cs = ((l.map Fld.cells).flatten).toArray) {n : Nat} (hn : n = l.length) (hS : S w.heap.size) : IsSl fldRep (w.alloc (.cells cs t)) S (some ⟨w.heap.size, 0, none⟩) n l := by
  subst hcs
  refine ⟨hn, l.map Fld.cells, ⟨by simp, fun k a cs ha hc => ?_⟩, fun _ => ⟨_, 0, rfl, hS, fun j u hu => ?_⟩⟩
  · rw [List.getElem?_map, ha] at hc
    exact ⟨(Option.some.inj hc).symm, hw a (List.mem_of_getElem? ha)⟩
  · rw [Nat.zero_add, World.cell?_alloc_at _ _ _ _ rfl]
    simpa using hu

theorem bcell {W w1 : World} (hb : Below W.heap.size W w1) : (∀ b o, b < W.heap.size → w1.cell? ⟨b, o, none⟩ = W.cell? ⟨b, o, none⟩) ∧ (∀ b o, b < W.heap.size → w1.frozen? ⟨b, o, none⟩ = W.frozen? ⟨b, o, none⟩) :=
  ⟨fun b o h => hb.cell (p := ⟨b, o, none⟩) h, fun b o h => hb.frozen (p := ⟨b, o, none⟩) h⟩

set_option maxRecDepth 100000 in
set_option maxHeartbeats 1000000 in
theorem flag_any (b : Bool) (w : World) :
    Calls Try.prog 118 #[.bool b] w fun e w' => e = .returned (.agg #[.int .i64 1, .int .i64 (bitI b), .string ByteArray.empty]) ∧ Below w.heap.size w w' := by
  cases b
  all_goals
    go_enter Try.func118, Try.ntmps118
    go_wp2_with (first
      | (go_at_call 87; (with_reducible refine (num_any _ _).mono ?_); rintro e w3 ⟨rfl, bel3⟩; obtain ⟨hc3, hf3⟩ := bcell bel3; have BEL3 := Lib.hid (((Below.refl w.heap.size w).alloc (Nat.le_refl _) _).trans (bel3.mono (by simp))); have hs3 := BEL3.out.size; clear bel3)
      | fail)
    refine bodyPost_ret (by simp [results, Try.results118, go_sem, hc3]; try rfl) rfl ?_
    exact ⟨rfl, ((BEL3.out.setCell (Nat.le_refl _) _).setCell (Nat.le_refl _) _).setCell (Nat.le_refl _) _⟩

theorem chgF_wf {c : Chg} (h : c.wf) : ∀ x ∈ chgF c, x.wf := by
  obtain ⟨h1, h2, h3⟩ := h
  intro x hx
  simp only [chgF, List.mem_cons, List.not_mem_nil, or_false] at hx
  rcases hx with rfl | rfl | rfl | rfl
  · exact numF_wf h1
  · exact numF_wf h2
  · exact numF_wf (bitI_wf _)
  · exact txtF_wf h3

set_option maxRecDepth 100000 in
set_option maxHeartbeats 2000000 in
theorem changeFields_any (c : Chg) (hc : c.wf) (w : World) :
    Calls Try.prog 88 #[.agg #[.int .i64 c.table, .int .i64 c.key, .bool c.gone, .string c.val]] w fun e w' => ∃ A cap, e = .returned (.slice A 4 cap) ∧ IsSl fldRep w' (· < w'.heap.size) A 4 (chgF c) ∧ Below w.heap.size w w' := by
  have HWF := Lib.hid (chgF_wf hc)
  obtain ⟨xt, xk, xg, xv⟩ := c
  dsimp only at *
  clear hc
  go_enter Try.func88, Try.ntmps88
  go_wp2
  obtain ⟨W, hW⟩ : ∃ W, W = w.alloc (.cells #[.int .i64 xt, .int .i64 xk, .bool xg, .string xv] 53) := ⟨_, rfl⟩
  have p0 : W.cell? ⟨w.heap.size, 0, none⟩ = some (.int .i64 xt) := by rw [hW]; exact World.cell?_alloc_at _ _ _ _ rfl
  have p1 : W.cell? ⟨w.heap.size, 1, none⟩ = some (.int .i64 xk) := by rw [hW]; exact World.cell?_alloc_at _ _ _ _ rfl
  have p2 : W.cell? ⟨w.heap.size, 2, none⟩ = some (.bool xg) := by rw [hW]; exact World.cell?_alloc_at _ _ _ _ rfl
  have p3 : W.cell? ⟨w.heap.size, 3, none⟩ = some (.string xv) := by rw [hW]; exact World.cell?_alloc_at _ _ _ _ rfl
  have hgW : w.heap.size < W.heap.size := by rw [hW]; simp
  have BW := Lib.hid (show Below w.heap.size w W by rw [hW]; exact (Below.refl _ _).alloc (Nat.le_refl _) _)
  rw [← hW]
  clear hW
  go_region_held3 (fun w' => w'.cell? ⟨w.heap.size, 0, none⟩ = some (.int .i64 xt) ∧ w'.cell? ⟨w.heap.size, 1, none⟩ = some (.int .i64 xk) ∧ w'.cell? ⟨w.heap.size, 2, none⟩ = some (.bool xg) ∧ w'.cell? ⟨w.heap.size, 3, none⟩ = some (.string xv)) (first | exact ⟨p0, p1, p2, p3⟩ | go_keep)
    (first
      | (go_at_call 87; (with_reducible refine (num_any _ _).mono ?_); rintro e w3 ⟨rfl, bel3⟩; have p0 := (bel3.cell (p := ⟨w.heap.size, 0, none⟩) hgW).trans p0; have p1 := (bel3.cell (p := ⟨w.heap.size, 1, none⟩) hgW).trans p1; have p2 := (bel3.cell (p := ⟨w.heap.size, 2, none⟩) hgW).trans p2; have p3 := (bel3.cell (p := ⟨w.heap.size, 3, none⟩) hgW).trans p3; have BW := Lib.hid (BW.out.trans ((below_of_drew bel3).mono BW.out.size)); have hgW := Nat.lt_of_lt_of_le hgW bel3.size; clear bel3)
      | (go_at_call 87; (with_reducible refine (num_any _ _).mono ?_); rintro e w3 ⟨rfl, bel3⟩; have p0 := (bel3.cell (p := ⟨w.heap.size, 0, none⟩) hgW).trans p0; have p1 := (bel3.cell (p := ⟨w.heap.size, 1, none⟩) hgW).trans p1; have p2 := (bel3.cell (p := ⟨w.heap.size, 2, none⟩) hgW).trans p2; have p3 := (bel3.cell (p := ⟨w.heap.size, 3, none⟩) hgW).trans p3; have BW := Lib.hid (BW.out.trans (bel3.mono BW.out.size)); have hgW := Nat.lt_of_lt_of_le hgW bel3.size; clear bel3)
      | (go_at_call 118; (with_reducible refine (flag_any _ _).mono ?_); rintro e w3 ⟨rfl, bel3⟩; have p0 := (bel3.cell (p := ⟨w.heap.size, 0, none⟩) hgW).trans p0; have p1 := (bel3.cell (p := ⟨w.heap.size, 1, none⟩) hgW).trans p1; have p2 := (bel3.cell (p := ⟨w.heap.size, 2, none⟩) hgW).trans p2; have p3 := (bel3.cell (p := ⟨w.heap.size, 3, none⟩) hgW).trans p3; have BW := Lib.hid (BW.out.trans (bel3.mono BW.out.size)); have hgW := Nat.lt_of_lt_of_le hgW bel3.size; clear bel3)
      | (go_at_call 89; (with_reducible refine (text_any _ _).mono ?_); rintro e w3 ⟨rfl, bel3⟩; have p0 := (bel3.cell (p := ⟨w.heap.size, 0, none⟩) hgW).trans p0; have p1 := (bel3.cell (p := ⟨w.heap.size, 1, none⟩) hgW).trans p1; have p2 := (bel3.cell (p := ⟨w.heap.size, 2, none⟩) hgW).trans p2; have p3 := (bel3.cell (p := ⟨w.heap.size, 3, none⟩) hgW).trans p3; have BW := Lib.hid (BW.out.trans (bel3.mono BW.out.size)); have hgW := Nat.lt_of_lt_of_le hgW bel3.size; clear bel3)
      | fail)
  go_wp2_with fail
  go_ret
  exact ⟨_, _, rfl, IsSl.newFlds (chgF ⟨xt, xk, xg, xv⟩) HWF.out rfl rfl (by simp), BW.out.alloc BW.out.size _⟩
end Go.Proofs.Ytojjeogpggielaa
