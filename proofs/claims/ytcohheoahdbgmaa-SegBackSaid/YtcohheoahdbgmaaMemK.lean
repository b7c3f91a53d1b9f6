/- The law on append, with one fact more: where a new row is made, the old one is as it was. Taken out of the text Mem (gen_memk.py). -/
import Derived.Test.YtcohheoahdbgmaaMem
set_option linter.unusedVariables false
namespace Go.Proofs.Ytcohheoahdbgmaa
open Go.RowKit

section
variable {α : Type} {R : Rep α} {P : Program} (w : World) {S : Nat → Prop} {l l' : List α}

/-- append onto what the call owns. -/
theorem run_append_OwnK (base : Nat) (t ty e : TypeId) (i : TypeInfo) (z : Value) (bytes : Nat) (ht : P.underlying t = some (.slice e)) (hi : P.info? e = some i) (hz : i.zero = some z)
    (hsize : i.size = R.size) (hby : i.bytes = bytes) (hzs : z.cells.size = R.size)
    (v : Value) (hown : Own R w base S e v l) (A : Option Addr) (m c : Nat) (hsrc : Src R w S A m l')
    (h63 : l.length + m ≤ maxLen) (hbytes : (l.length + m) * bytes ≤ 211106232532992) (hb1 : bytes ≤ 65536) (hbase : base ≤ w.heap.size) :
    ∃ v' w', (Builtin.append_ #[t, t] ty #[v, .slice A m c]).run P w = .ok v' w' ∧ Own R w' base S e v' (l ++ l') ∧ w.grownBy w' (rowOf v) ∧
      (v' = v ∨ rowOf v' = rowOf v ∨ (rowOf v' = some w.heap.size ∧ w.grownBy w' none)) := by
  obtain ⟨rfl, ys, hr', hc'⟩ := hsrc
  have hp := R.pos
  have hlen' : ys.flatten.length = l'.length * R.size := hr'.flat_len
  by_cases hm : l'.length = 0
  · -- nothing is appended
    have : l' = [] := List.eq_nil_of_length_eq_zero hm
    subst this
    have hys : ys = [] := List.eq_nil_of_length_eq_zero hr'.1
    subst hys
    refine ⟨v, w, ?_, by simpa using hown, World.grownBy.refl w _, .inl rfl⟩
    have hf : ∀ w0 : World, (Builtin.firstCells i.size 0 (.slice A 0 c)).run P w0 = .ok #[] w0 := by
      intro w0
      cases A with
      | none => simp [Builtin.firstCells]
      | some a => simp [Builtin.firstCells, loadCells, loadCellsFrom]
    rcases hown.2 with ⟨B, rfl, rfl⟩ | ⟨g, cap, cur, xss, rfl, _, _, _, hle, _⟩
    · cases B <;> simp [Builtin.append_, run_underlying ht, sizeOf, typeInfo, hi, Builtin.lenOf, hf, storeCells]
    · simp [Builtin.append_, run_underlying ht, sizeOf, typeInfo, hi, Builtin.lenOf, hf, storeCells, hle]
  · have hne : ys.flatten ≠ [] := by
      intro e0
      rw [e0, List.length_nil] at hlen'
      have : 0 < l'.length * R.size := Nat.mul_pos (by omega) hp
      omega
    obtain ⟨ad, rfl, hcells⟩ := cellz_addr w hc' hne
    have hl0 : 0 < l'.length := by omega
    have hsmall : l.length + l'.length ≤ 9223372036854775807 := by simp only [maxLen] at h63; omega
    subst hby
    have grown : ∀ (xss : List (List Value)) (hx : Rows R w S l xss) (old : Nat) (hold : l.length ≤ old), old < l.length + l'.length →
        Own R (w.drew.alloc (.cells (xss.flatten.toArray ++ ys.flatten.toArray ++ Builtin.zeroCells z.cells (grownCap w (l.length + l'.length) old e - (l.length + l'.length))) e)) base S e
          (.slice (some ⟨w.heap.size, 0, none⟩) (l.length + l'.length) (grownCap w (l.length + l'.length) old e)) (l ++ l') := by
      intro xss hx old hold ho
      have hge := grownCap_ge w (l.length + l'.length) old e
      have hcm : grownCap w (l.length + l'.length) old e ≤ maxLen := grownCap_le_maxLen w (l.length + l'.length) old e h63
      have hlx := hx.flat_len
      have hk : ∀ (o : Obj) (p : Addr), S p.block → (w.drew.alloc o).cell? p = w.cell? p := fun o p hp => World.cell?_of_block (Below.heap_alloc w.drew o p.block (hown.1 _ hp))
      refine ⟨fun b hb => by have := hown.1 b hb; simp; omega, .inr ⟨w.heap.size, _, _, xss ++ ys, by rw [List.length_append], hbase, fun hS => Nat.lt_irrefl _ (hown.1 _ hS), heap_alloc_new w.drew _, by rw [List.length_append]; exact hge, hcm, ?_, ((hx.keep (hk _)).append (hr'.keep (hk _))), ?_⟩⟩
      · simp only [Array.size_append, List.size_toArray, size_zeroCells, hzs, hlx, hlen', ← Nat.add_mul]
        congr 1
        omega
      · simp only [Array.toList_append, List.append_assoc, List.flatten_append, List.length_append, Nat.add_mul]
        rw [← hlx, ← hlen', ← List.length_append, ← List.append_assoc]
        exact List.take_left
    have gby0 : ∀ (o : Obj), w.grownBy (w.drew.alloc o) none := fun o => ⟨rfl, rfl, rfl, by simp, fun k hk _ => Below.heap_alloc w.drew o k hk⟩
    have gby : ∀ (o : Obj), w.grownBy (w.drew.alloc o) (rowOf v) := fun o => ⟨rfl, rfl, rfl, by simp, fun k hk _ => Below.heap_alloc w.drew o k hk⟩
    have hcap : ∀ (old : Nat), ∃ c', grownCap w (l.length + l'.length) old e = c' + 1 := by
      intro old
      have := grownCap_ge w (l.length + l'.length) old e
      exact ⟨grownCap w (l.length + l'.length) old e - 1, by omega⟩
    rcases hown.2 with ⟨B, rfl, rfl⟩ | ⟨g, cap, cur, xss, rfl, hbg, hSg, hg, hnc, hcm, hcs, hr, htake⟩
    · have hgr := grown [] Rows.nil 0 (by simp) (by simpa using hl0)
      simp only [List.length_nil, Nat.zero_add, List.nil_append, List.flatten_nil] at hgr hbytes h63 ⊢
      cases B with
      | none =>
        have hrun := run_append_nil (P := P) w t ty e i z ht hi hz ad l'.length c ys.flatten (by rw [hlen', hsize]) hcells hl0 (by simp at hsmall; omega) (by omega)
        refine ⟨_, _, hrun, by simpa using hgr, gby _, ?_⟩
        obtain ⟨c', hc''⟩ := hcap 0
        simp only [List.length_nil, Nat.zero_add] at hc''
        right; right
        refine ⟨?_, gby0 _⟩
        rw [hc'']
        rfl
      | some b =>
        have hrun := run_append_grow (P := P) w t ty e i z ht hi hz b 0 0 [] (by simp) (by simp) ad l'.length c ys.flatten (by rw [hlen', hsize]) hcells (by omega) (by simp at hsmall; omega)
          (by rw [Nat.zero_add, nextslicecap_zero hl0]; omega)
        simp only [Nat.zero_add] at hrun
        refine ⟨_, _, hrun, by simpa using hgr, gby _, ?_⟩
        obtain ⟨c', hc''⟩ := hcap 0
        simp only [List.length_nil, Nat.zero_add] at hc''
        right; right
        refine ⟨?_, gby0 _⟩
        rw [hc'']
        rfl
    · have hlx := hr.flat_len
      by_cases hroom : l.length + l'.length ≤ cap
      · have hfit : l.length * i.size + ys.flatten.length ≤ cur.size := by rw [hlen', hcs, hsize, ← Nat.add_mul]; exact Nat.mul_le_mul_right _ hroom
        have hrun := run_append_room (P := P) w t ty e i ht hi g l.length cap cur hg ad l'.length c ys.flatten (by rw [hlen', hsize]) hcells hr'.ones hroom hfit
        have hk : ∀ (cs : Array Value) (p : Addr), S p.block → (w.setRow g cs).cell? p = w.cell? p := fun cs p hp => World.cell?_of_block (setRow_other w g p.block cs (fun e0 => hSg (e0 ▸ hp)))
        have hrow : rowOf (.slice (some ⟨g, 0, none⟩) l.length cap) = some g := by
          cases cap with
          | zero => omega
          | succ c0 => rfl
        refine ⟨_, _, hrun, ⟨fun b hb => by rw [size_setRow]; exact hown.1 b hb, .inr ⟨g, cap, _, xss ++ ys, by rw [List.length_append], hbg, hSg, setRow_heap w g cur _ e _ hg, by rw [List.length_append]; exact hroom, hcm, ?_, (hr.keep (hk _)).append (hr'.keep (hk _)), ?_⟩⟩, ?_, ?_⟩
        · simp only [List.size_toArray, List.length_append, List.length_take, List.length_drop, Array.length_toList]
          omega
        · rw [hsize, htake, List.length_append, Nat.add_mul, ← hlx, ← hlen', List.flatten_append, ← List.length_append]
          exact List.take_left
        · rw [hrow]
          exact ⟨rfl, rfl, rfl, by simp, fun k _ hk0 => setRow_other w g k _ (fun e0 => hk0 (by rw [e0]))⟩
        · right; left
          cases cap with
          | zero => omega
          | succ c0 => rfl
      · have holds : ∀ j u, xss.flatten[j]? = some u → w.cell? ((⟨g, 0, none⟩ : Addr).add j) = some u := by
          intro j u hu
          rw [add_none, Nat.zero_add, cell_of_row w g j cur e (0, 0) hg]
          rw [← htake, List.getElem?_take] at hu
          split at hu
          · simpa using hu
          · cases hu
        have hrun := run_append_grow (P := P) w t ty e i z ht hi hz ⟨g, 0, none⟩ l.length cap xss.flatten (by rw [hlx, hsize]) holds ad l'.length c ys.flatten (by rw [hlen', hsize]) hcells (by omega) (by omega) (grow_fits (by omega) hbytes hb1)
        refine ⟨_, _, hrun, grown xss hr cap hnc (by omega), gby _, ?_⟩
        obtain ⟨c', hc''⟩ := hcap cap
        right; right
        refine ⟨?_, gby0 _⟩
        rw [hc'']
        rfl

theorem wp_append_OwnK {o : Oper} {a : Act} {K : Act → World → Prop} {Q : Exit → Act → World → Prop} (s x : Operand) (t : TypeId)
    (ho : o.op = .call { callee := .builtin .append, args := #[s, x], argTypes := #[t, t] })
    (base : Nat) (e : TypeId) (i : TypeInfo) (z : Value) (bytes : Nat) (ht : P.underlying t = some (.slice e)) (hi : P.info? e = some i) (hz : i.zero = some z)
    (hsize : i.size = R.size) (hby : i.bytes = bytes) (hzs : z.cells.size = R.size)
    (v : Value) (hs : a.eval s = v) (hown : Own R w base S e v l) (A : Option Addr) (m c : Nat) (hx : a.eval x = .slice A m c) (hsrc : Src R w S A m l')
    (h63 : l.length + m ≤ maxLen) (hbytes : (l.length + m) * bytes ≤ 211106232532992) (hb1 : bytes ≤ 65536) (hbase : base ≤ w.heap.size)
    (h : ∀ v' w', Own R w' base S e v' (l ++ l') → w.grownBy w' (rowOf v) → (v' = v ∨ rowOf v' = rowOf v ∨ (rowOf v' = some w.heap.size ∧ w.grownBy w' none)) → K (a.put o.dst v') w') : o.wp P a w K Q := by
  obtain ⟨v', w', hr, h2, h3, h4⟩ := run_append_OwnK (P := P) w base t o.type e i z bytes ht hi hz hsize hby hzs v hown A m c hsrc h63 hbytes hb1 hbase
  unfold Oper.wp execOp
  simp only [ho, resolve, invoke, builtin, Sem.run_bind, Sem.run_pure, Result.andThen_ok, List.map_toArray, List.map_cons, List.map_nil, hs, hx, hr]
  exact h v' w' h2 h3 h4

theorem wpList_append_OwnK {ops : Array Oper} {rest : List Oper} {o : Oper} {a : Act} {Q : Exit → Act → World → Prop} (hgd : o.guard = none) (s x : Operand) (t : TypeId)
    (ho : o.op = .call { callee := .builtin .append, args := #[s, x], argTypes := #[t, t] })
    (base : Nat) (e : TypeId) (i : TypeInfo) (z : Value) (bytes : Nat) (ht : P.underlying t = some (.slice e)) (hi : P.info? e = some i) (hz : i.zero = some z)
    (hsize : i.size = R.size) (hby : i.bytes = bytes) (hzs : z.cells.size = R.size)
    (v : Value) (hs : a.eval s = v) (hown : Own R w base S e v l) (A : Option Addr) (m c : Nat) (hx : a.eval x = .slice A m c) (hsrc : Src R w S A m l')
    (h63 : l.length + m ≤ maxLen) (hbytes : (l.length + m) * bytes ≤ 211106232532992) (hb1 : bytes ≤ 65536) (hbase : base ≤ w.heap.size)
    (h : ∀ v' w', Own R w' base S e v' (l ++ l') → w.grownBy w' (rowOf v) → (v' = v ∨ rowOf v' = rowOf v ∨ (rowOf v' = some w.heap.size ∧ w.grownBy w' none)) → wpList P ops Q rest (a.put o.dst v') w') : wpList P ops Q (o :: rest) a w :=
  wpList_plain hgd fun _ hK => wp_append_OwnK w s x t ho base e i z bytes ht hi hz hsize hby hzs v hs hown A m c hx hsrc h63 hbytes hb1 hbase fun v' w' h2 h3 h4 => hK _ _ (h v' w' h2 h3 h4)

/-- The same for an operation that is guarded. -/
theorem wpList_append_OwnG {ops : Array Oper} {rest : List Oper} {o : Oper} {a : Act} {Q : Exit → Act → World → Prop} (hgd : Region.wanted o (yielded ops a.tmps) = true) (s x : Operand) (t : TypeId)
    (ho : o.op = .call { callee := .builtin .append, args := #[s, x], argTypes := #[t, t] })
    (base : Nat) (e : TypeId) (i : TypeInfo) (z : Value) (bytes : Nat) (ht : P.underlying t = some (.slice e)) (hi : P.info? e = some i) (hz : i.zero = some z)
    (hsize : i.size = R.size) (hby : i.bytes = bytes) (hzs : z.cells.size = R.size)
    (v : Value) (hs : a.eval s = v) (hown : Own R w base S e v l) (A : Option Addr) (m c : Nat) (hx : a.eval x = .slice A m c) (hsrc : Src R w S A m l')
    (h63 : l.length + m ≤ maxLen) (hbytes : (l.length + m) * bytes ≤ 211106232532992) (hb1 : bytes ≤ 65536) (hbase : base ≤ w.heap.size)
    (h : ∀ v' w', Own R w' base S e v' (l ++ l') → w.grownBy w' (rowOf v) → (v' = v ∨ rowOf v' = rowOf v ∨ (rowOf v' = some w.heap.size ∧ w.grownBy w' none)) → wpList P ops Q rest (a.put o.dst v') w') : wpList P ops Q (o :: rest) a w :=
  wpList_step fun _ hK => by rw [if_pos hgd]; exact wp_append_OwnK w s x t ho base e i z bytes ht hi hz hsize hby hzs v hs hown A m c hx hsrc h63 hbytes hb1 hbase fun v' w' h2 h3 h4 => hK _ _ (h v' w' h2 h3 h4)
end

/-- What was there ahead of an append is still there. -/
theorem app_keep {α : Type} {R : Rep α} {w w' : World} {base : Nat} {e : TypeId} {A2 : Option Addr} {n c2 : Nat} {l l' : List α} {v' : Value} (h : Own R w base (fun _ => False) e (.slice A2 n c2) l) (h' : Own R w' base (fun _ => False) e v' (l ++ l')) (gr : w.grownBy w' (rowOf (.slice A2 n c2)))
    (at_ : v' = .slice A2 n c2 ∨ rowOf v' = rowOf (.slice A2 n c2) ∨ (rowOf v' = some w.heap.size ∧ w.grownBy w' none)) : IsSl R w' (· < w'.heap.size) A2 n l := by
  obtain ⟨A, c, hv, h1, h2, h3⟩ := h.isSl (S' := (· < w.heap.size)) (fun _ h => h.elim) (fun _ _ h => h)
  injection hv with e1 e2 e3
  subst e1 e2 e3
  by_cases hne : l = []
  · subst hne
    exact IsSl.nil
  have hp : 0 < l.length := List.length_pos_iff.mpr hne
  obtain ⟨g, cap, hv2, hbg, hgs, _⟩ := h.form1 hne
  injection hv2 with e1 _ e3
  subst e1 e3
  have hrow : rowOf (.slice (some ⟨g, 0, none⟩) l.length c2) = some g := by
    cases c2 with
    | zero => omega
    | succ c0 => rfl
  have same : w.grownBy w' none → IsSl R w' (· < w'.heap.size) (some ⟨g, 0, none⟩) l.length l := fun g0 =>
    (h3.keep (fun p hp => World.cell?_of_block (g0.block p.block hp (by simp)))).more g0.size
  have hne2 : l ++ l' ≠ [] := by simp [hne]
  obtain ⟨g2, cap2, hv3, _, hg2, hl2, _⟩ := h'.form1 hne2
  obtain ⟨A3, c3, hv4, _, _, hs⟩ := h'.isSl (S' := (· < w'.heap.size)) (fun _ h => h.elim) (fun _ _ h => h)
  rw [hv3] at hv4
  injection hv4 with e4 _ _
  subst e4
  have hrow2 : rowOf v' = some g2 := by
    rw [hv3]
    have : 0 < (l ++ l').length := by rw [List.length_append]; omega
    cases cap2 with
    | zero => omega
    | succ c0 => rfl
  have fromOld : g2 = g → IsSl R w' (· < w'.heap.size) (some ⟨g, 0, none⟩) l.length l := by
    rintro rfl
    have := hs.cutTo (hi := l.length) (by rw [List.length_append]; omega)
    rw [List.take_left] at this
    exact this
  rcases at_ with ha | ha | ⟨_, g0⟩
  · rw [ha, hrow] at hrow2
    injection hrow2 with e5
    exact fromOld e5.symm
  · rw [hrow2, hrow] at ha
    injection ha with e5
    exact fromOld e5
  · exact same g0
end Go.Proofs.Ytcohheoahdbgmaa
