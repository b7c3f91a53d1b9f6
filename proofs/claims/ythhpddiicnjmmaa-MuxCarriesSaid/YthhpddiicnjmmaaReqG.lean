/- Contract of the reference's Chunk. Plain facts: a chunk that is done, a request that is accepted leave requests that may be. -/
import Derived.Test.YthhpddiicnjmmaaReqE
set_option maxRecDepth 100000
namespace Go.Proofs.Ythhpddiicnjmmaa
open Go.RowKit

theorem may_chunks {l : List Req} {k : Nat} {r : Req} (h : mayB l = true) (hr : l[k]? = some r) : r.chunks ≤ 1099511627776 := by
  unfold mayB at h
  rw [Bool.and_eq_true] at h
  have h1 := h.1
  have hk := okFrom_take hr
  have h2 : okFrom [] (l.take (k + 1)) = true := by
    have := okFrom_append (l.take (k + 1)) (l.drop (k + 1)) []
    rw [List.take_append_drop, h1] at this
    simp at this
    exact this.1
  rw [hk, Bool.and_eq_true] at h2
  have h3 := h2.2
  unfold stepOk at h3
  simp only [Bool.and_eq_true] at h3
  have h4 := h3.2.1
  unfold oneB at h4
  rw [decide_eq_true_iff] at h4
  exact h4.2.2.2.2.2.2.2.2.2.2

theorem placed_none_out {l : List Req} {id : Int} (h : ¬ (1 ≤ id ∧ id ≤ (l.length : Int))) : placed l id = none := by unfold placed; rw [if_neg h]

theorem placed_at {l : List Req} {k : Nat} {r : Req} (hr : l[k]? = some r) : placed l ((k : Int) + 1) = if r.done then none else some r := by
  have hk : k < l.length := (List.getElem?_eq_some_iff.1 hr).1
  unfold placed
  rw [if_pos (by omega), show ((k : Int) + 1 - 1).toNat = k by omega, hr]
  rfl

theorem frozen_new (w : World) (c : Array Value) (t : TypeId) (j : Nat) : (w.alloc (.cells c t)).frozen? ⟨w.heap.size, j, none⟩ = false := by
  rw [frozen?_alloc_cells]
  simp [World.frozen?]

theorem set_same {α : Type} {l : List α} {k : Nat} {x : α} (h : l[k]? = some x) : l.set k x = l := by
  obtain ⟨hk, rfl⟩ := List.getElem?_eq_some_iff.1 h
  exact List.set_getElem_self hk

theorem grownBy_setR (w : World) (p : Addr) (u : Value) : w.grownBy (w.setCell p u) (some p.block) := by
  have h := (Below.refl 0 w).setCell (p := p) (Nat.zero_le _) u
  exact ⟨h.os, h.tape, h.output, h.size, fun k _ hne => Below.heap_setCell w p u k (fun e => hne (by rw [e]))⟩

theorem Own.setOther {α : Type} {R : Rep α} {w : World} {base : Nat} {S : Nat → Prop} {e : TypeId} {v : Value} {l : List α} (h : Own R w base S e v l) {p : Addr} (hp : p.block < base) (hS : ¬ S p.block) (u : Value) : Own R (w.setCell p u) base S e v l :=
  h.kept (row := some p.block) (grownBy_setR w p u) (fun g hg => by cases hg; exact ⟨fun hr => absurd (h.row_ge hr) (by omega), hS⟩)

set_option maxRecDepth 8000 in
set_option maxHeartbeats 4000000 in
theorem refchunk_any (A : Option Addr) (n c : Nat) (l : List Req) (id cursor : Int) (done : Bool) (w : World) (h : IsSl reqRep w (· < w.heap.size) A n l) (hn : n ≤ 900000) (hid : I64 id) (hcu : I64 cursor) :
    Calls Try.prog 109 #[.slice A n c, .int .i64 id, .int .i64 cursor, .bool done] w (Answers w (chunkO l id cursor done)) := by
  obtain ⟨i0, hi, hz0, hz1, hz2⟩ := info_parts info_req
  have HL := Lib.hid h.len
  have H := Lib.hid h
  have hn1 : n ≤ 1000000 := by omega
  obtain ⟨m1, hm1⟩ : ∃ m1, m1 = mayB l := ⟨_, rfl⟩
  have HM1 := Lib.hid hm1
  clear hm1
  unfold I64 at hid
  cases m1 with
  | false =>
    have HO := Lib.hid (show chunkO l id cursor done = none by unfold chunkO; rw [← HM1.out]; cases placed l id <;> simp)
    clear h
    go_enter Try.func109, Try.ntmps109
    go_wp2_with (go_at_call 92; (with_reducible refine (refmay_any A n c l _ H.out hn1).mono ?_); rintro e w2 ⟨rfl, bw2⟩; rw [← HM1.out])
    go_ret2
    unfold Answers
    rw [HO.out]
    exact ⟨_, rfl, Own.nil _ _ _ (fun _ h => h.elim) _ _, bw2⟩
  | true =>
    by_cases hin : 1 ≤ id ∧ id ≤ (n : Int)
    · obtain ⟨k, hk⟩ := Int.eq_ofNat_of_zero_le (show 0 ≤ id - 1 by omega)
      obtain rfl : id = (k : Int) + 1 := by omega
      have hkn : k < n := by omega
      obtain ⟨b, off, r, _, rfl, _, hx, _, _⟩ := h.at_ hkn
      have HX := Lib.hid hx
      have hch := may_chunks HM1.out.symm hx
      have HP := Lib.hid (placed_at hx)
      have HNE := Lib.hid (show l ≠ [] by rintro rfl; simp at hx)
      have hwr : IntKind.i64.wrap ((k : Int) + 1 - 1) = (k : Int) := by rw [IntWalk.i64_in _ ⟨by omega, by omega⟩]; omega
      have hkt : ((k : Int) + 1 - 1).toNat = k := by omega
      have HKT := Lib.hid hkt
      clear h hk hin hx hkt
      by_cases hgood : r.done = false ∧ r.cursor ≤ cursor ∧ cursor ≤ 1099511627776 ∧ r.chunks ≠ 1099511627776
      · obtain ⟨g0, g1, g2, g3⟩ := hgood
        have HO := Lib.hid (show chunkO l ((k : Int) + 1) cursor done = some (l.set k { r with cursor := cursor, done := done, chunks := r.chunks + 1 }) by
          unfold chunkO
          rw [HP.out, ← HM1.out, HKT.out, g0]
          simp only [Bool.false_eq_true, if_false]
          rw [if_pos ⟨trivial, g1, g2, by omega⟩])
        have b1 : (r.chunks == 1099511627776) = false := by simpa using g3
        have HG0 := Lib.hid g0
        clear g0 g3
        go_enter Try.func109, Try.ntmps109
        go_wp2_with (first
          | (go_at_call 92; (with_reducible refine (refmay_any _ n c l _ H.out hn1).mono ?_); rintro e w2 ⟨rfl, bw2⟩; rw [← HM1.out]; obtain ⟨⟨d0, d1, d2, d3, d4, d5, d6⟩, hwf, hbS⟩ := ReqCells.of H.out HX.out (fun p hp => bw2.cell hp); rw [HG0.out] at d6; have hs2 := bw2.size)
          | (at_builtin; refine wpList_append_Own _ rfl (.tmp 47) (.tmp 48) 86 rfl (w2.heap.size + 1) 94 i0 _ 56 Try.underlying86 hi hz0 hz1 hz2 rfl (R := reqRep) (S := fun _ => False) (l := []) (l' := l) (.slice (some ⟨w2.heap.size + 1, 0, none⟩) 0 0) rfl (Own.nil _ _ _ (fun _ h => h.elim) _ _) _ n c rfl ((H.out).srcF flat_req ((bw2.alloc hs2 _).alloc (by simp; omega) _)) (by simp only [maxLen, List.length_nil]; omega) (by simp only [List.length_nil]; omega) (by omega) (by simp) ?_; intro v1 w3 own3 gr1 at1; have bw3 := ((bw2.alloc hs2 (.cells #[.int .i64 r.id, .int .i64 r.table, .int .i64 r.weight, .int .i64 r.at_, .int .i64 r.cursor, .int .i64 r.chunks, .bool false] 94)).alloc (by simp; omega) (.cells #[] 94)).grown gr1 (by simp; omega) (by intro k hk; simp [rowOf] at hk); have bq := ((Below.refl (w2.heap.size + 1) (w2.alloc (.cells #[.int .i64 r.id, .int .i64 r.table, .int .i64 r.weight, .int .i64 r.at_, .int .i64 r.cursor, .int .i64 r.chunks, .bool false] 94))).alloc (by simp) (.cells #[] 94)).grown gr1 (by simp) (by intro k hk; simp [rowOf] at hk); simp only [List.nil_append] at own3; clear gr1 at1; have hf3 := own3.form1 HNE.out; rw [← HL.out] at hf3; obtain ⟨g, cap, rfl, hgB, hgl, hcp1, hcp2⟩ := hf3; have OWN := Lib.hid own3
             have r0 : w3.cell? ⟨w2.heap.size, 0, none⟩ = some (.int .i64 r.id) := (bq.cell (p := ⟨w2.heap.size, 0, none⟩) (by simp)).trans (World.cell?_alloc_at _ _ _ _ rfl)
             have r1 : w3.cell? ⟨w2.heap.size, 1, none⟩ = some (.int .i64 r.table) := (bq.cell (p := ⟨w2.heap.size, 1, none⟩) (by simp)).trans (World.cell?_alloc_at _ _ _ _ rfl)
             have r2 : w3.cell? ⟨w2.heap.size, 2, none⟩ = some (.int .i64 r.weight) := (bq.cell (p := ⟨w2.heap.size, 2, none⟩) (by simp)).trans (World.cell?_alloc_at _ _ _ _ rfl)
             have r3 : w3.cell? ⟨w2.heap.size, 3, none⟩ = some (.int .i64 r.at_) := (bq.cell (p := ⟨w2.heap.size, 3, none⟩) (by simp)).trans (World.cell?_alloc_at _ _ _ _ rfl)
             have r4 : w3.cell? ⟨w2.heap.size, 4, none⟩ = some (.int .i64 r.cursor) := (bq.cell (p := ⟨w2.heap.size, 4, none⟩) (by simp)).trans (World.cell?_alloc_at _ _ _ _ rfl)
             have r5 : w3.cell? ⟨w2.heap.size, 5, none⟩ = some (.int .i64 r.chunks) := (bq.cell (p := ⟨w2.heap.size, 5, none⟩) (by simp)).trans (World.cell?_alloc_at _ _ _ _ rfl)
             have r6 : w3.cell? ⟨w2.heap.size, 6, none⟩ = some (.bool false) := (bq.cell (p := ⟨w2.heap.size, 6, none⟩) (by simp)).trans (World.cell?_alloc_at _ _ _ _ rfl)
             have z4 : w3.frozen? ⟨w2.heap.size, 4, none⟩ = false := (bq.frozen (p := ⟨w2.heap.size, 4, none⟩) (by simp)).trans (frozen_new _ _ _ _)
             have z5 : w3.frozen? ⟨w2.heap.size, 5, none⟩ = false := (bq.frozen (p := ⟨w2.heap.size, 5, none⟩) (by simp)).trans (frozen_new _ _ _ _)
             have z6 : w3.frozen? ⟨w2.heap.size, 6, none⟩ = false := (bq.frozen (p := ⟨w2.heap.size, 6, none⟩) (by simp)).trans (frozen_new _ _ _ _)
             have hne : g ≠ w2.heap.size := by omega
             have hne2 : w2.heap.size ≠ g := by omega
             have e0 : w3.cell? ⟨g, k * 7, none⟩ = some (.int .i64 r.id) := (own_req own3 HX.out 0 (by omega)).1
             have e1 : w3.cell? ⟨g, k * 7 + 1, none⟩ = some (.int .i64 r.table) := (own_req own3 HX.out 1 (by omega)).1
             have e2 : w3.cell? ⟨g, k * 7 + 2, none⟩ = some (.int .i64 r.weight) := (own_req own3 HX.out 2 (by omega)).1
             have e3 : w3.cell? ⟨g, k * 7 + 3, none⟩ = some (.int .i64 r.at_) := (own_req own3 HX.out 3 (by omega)).1
             have e4 : w3.cell? ⟨g, k * 7 + 4, none⟩ = some (.int .i64 r.cursor) := (own_req own3 HX.out 4 (by omega)).1
             have e5 : w3.cell? ⟨g, k * 7 + 5, none⟩ = some (.int .i64 r.chunks) := (own_req own3 HX.out 5 (by omega)).1
             have e6 : w3.cell? ⟨g, k * 7 + 6, none⟩ = some (.bool r.done) := (own_req own3 HX.out 6 (by omega)).1
             have y0 : w3.frozen? ⟨g, k * 7, none⟩ = false := (own_req own3 HX.out 0 (by omega)).2
             have y1 := (own_req own3 HX.out 1 (by omega)).2
             have y2 := (own_req own3 HX.out 2 (by omega)).2
             have y3 := (own_req own3 HX.out 3 (by omega)).2
             have y4 := (own_req own3 HX.out 4 (by omega)).2
             have y5 := (own_req own3 HX.out 5 (by omega)).2
             have y6 := (own_req own3 HX.out 6 (by omega)).2
             clear own3))
        go_ret2
        unfold Answers
        rw [HO.out]
        obtain ⟨u0, u1, u2, u3, u4, u5⟩ := hwf
        have hwc : wrap64 (r.chunks + 1) = r.chunks + 1 := IntWalk.wrap64_in _ ⟨by unfold I64 at u5; omega, by omega⟩
        rw [hwc]
        have hkl : k < l.length := by rw [← HL.out]; exact hkn
        have hset : l.set k r = l := set_same HX.out
        have ownA := ((OWN.out.setOther (p := ⟨w2.heap.size, 4, none⟩) (by simp) id (.int .i64 cursor)).setOther (p := ⟨w2.heap.size, 5, none⟩) (by simp) id (.int .i64 (r.chunks + 1))).setOther (p := ⟨w2.heap.size, 6, none⟩) (by simp) id (.bool done)
        have own0 := own_req_set (y := r) (j := 0) (u := .int .i64 r.id) ownA HX.out (by omega) rfl ⟨u0, u1, u2, u3, u4, u5⟩
        rw [hset] at own0
        have own1 := own_req_set (y := r) (j := 1) (u := .int .i64 r.table) own0 HX.out (by omega) rfl ⟨u0, u1, u2, u3, u4, u5⟩
        rw [hset] at own1
        have own2 := own_req_set (y := r) (j := 2) (u := .int .i64 r.weight) own1 HX.out (by omega) rfl ⟨u0, u1, u2, u3, u4, u5⟩
        rw [hset] at own2
        have own3 := own_req_set (y := r) (j := 3) (u := .int .i64 r.at_) own2 HX.out (by omega) rfl ⟨u0, u1, u2, u3, u4, u5⟩
        rw [hset] at own3
        have own4 := own_req_set (y := { r with cursor := cursor }) (j := 4) (u := .int .i64 cursor) own3 HX.out (by omega) rfl ⟨u0, u1, u2, u3, hcu, u5⟩
        have k1 : (l.set k { r with cursor := cursor })[k]? = some { r with cursor := cursor } := List.getElem?_set_self hkl
        have own5 := own_req_set (y := { r with cursor := cursor, chunks := r.chunks + 1 }) (j := 5) (u := .int .i64 (r.chunks + 1)) own4 k1 (by omega) rfl ⟨u0, u1, u2, u3, hcu, by unfold I64 at u5 ⊢; dsimp only; omega⟩
        rw [List.set_set] at own5
        have k2 : (l.set k { r with cursor := cursor, chunks := r.chunks + 1 })[k]? = some { r with cursor := cursor, chunks := r.chunks + 1 } := List.getElem?_set_self hkl
        have own6 := own_req_set (y := { r with cursor := cursor, chunks := r.chunks + 1, done := done }) (j := 6) (u := .bool done) own5 k2 (by omega) rfl ⟨u0, u1, u2, u3, hcu, by unfold I64 at u5 ⊢; dsimp only; omega⟩
        rw [List.set_set] at own6
        have q2 : w.heap.size ≤ w2.heap.size := hs2
        have qg : w.heap.size ≤ g := by omega
        exact ⟨_, rfl, own6.mono (by omega), (((((((((bw3.setCell q2 _).setCell q2 _).setCell q2 _).setCell qg _).setCell qg _).setCell qg _).setCell qg _).setCell qg _).setCell qg _).setCell qg _⟩
      · have HO := Lib.hid (show chunkO l ((k : Int) + 1) cursor done = none by
          unfold chunkO
          rw [HP.out, ← HM1.out]
          cases hd : r.done with
          | true => rfl
          | false =>
            simp only [Bool.false_eq_true, if_false]
            rw [if_neg]
            rintro ⟨_, q1, q2, q3⟩
            exact hgood ⟨hd, q1, q2, by omega⟩)
        have hbad : r.done = true ∨ (r.done = false ∧ cursor < r.cursor) ∨ (r.done = false ∧ r.cursor ≤ cursor ∧ 1099511627776 < cursor) ∨ (r.done = false ∧ r.cursor ≤ cursor ∧ cursor ≤ 1099511627776 ∧ (r.chunks == 1099511627776) = true) := by
          rw [beq_iff_eq]
          cases hd : r.done with
          | true => exact .inl rfl
          | false => 
            right
            simp only [hd, true_and] at hgood ⊢
            omega
        clear hgood
        rcases hbad with hb0 | ⟨hb0, hb1⟩ | ⟨hb0, hb1, hb2⟩ | ⟨hb0, hb1, hb2, hb3⟩
        all_goals
          have HB0 := Lib.hid hb0
          clear hb0
          go_enter Try.func109, Try.ntmps109
          go_wp2_with (go_at_call 92; (with_reducible refine (refmay_any _ n c l _ H.out hn1).mono ?_); rintro e w2 ⟨rfl, bw2⟩; rw [← HM1.out]; obtain ⟨⟨d0, d1, d2, d3, d4, d5, d6⟩, hwf, hbS⟩ := ReqCells.of H.out HX.out (fun p hp => bw2.cell hp); rw [HB0.out] at d6; have hs2 := bw2.size)
          all_goals first
            | (exfalso; omega)
            | (go_ret2
               unfold Answers
               rw [HO.out]
               exact ⟨_, rfl, Own.nil _ _ _ (fun _ h => h.elim) _ _, bw2.alloc hs2 _⟩)
    · have HO := Lib.hid (show chunkO l id cursor done = none by unfold chunkO; rw [placed_none_out (by rw [← HL.out]; exact hin)])
      have hbad : id < 1 ∨ (1 ≤ id ∧ (n : Int) < id) := by omega
      clear h hin
      rcases hbad with hb1 | ⟨hb1, hb2⟩
      all_goals
        go_enter Try.func109, Try.ntmps109
        go_wp2_with (go_at_call 92; (with_reducible refine (refmay_any A n c l _ H.out hn1).mono ?_); rintro e w2 ⟨rfl, bw2⟩; rw [← HM1.out])
        go_ret2
        unfold Answers
        rw [HO.out]
        exact ⟨_, rfl, Own.nil _ _ _ (fun _ h => h.elim) _ _, bw2⟩
end Go.Proofs.Ythhpddiicnjmmaa

namespace Go.Proofs.Ythhpddiicnjmmaa

theorem ref_iff : ∀ (n : Nat) (l : List Req), l.length = n → (refFrom [] l = true ↔ ∀ i x, l[i]? = some x → refStep (l.take i) x = true) := by
  intro n
  induction n with
  | zero => intro l h; obtain rfl := List.eq_nil_of_length_eq_zero h; simp [refFrom]
  | succ n ih =>
    intro l h
    have hne : l ≠ [] := by rintro rfl; simp at h
    obtain ⟨q, x, rfl⟩ : ∃ q x, l = q ++ [x] := ⟨l.dropLast, l.getLast hne, (List.dropLast_concat_getLast hne).symm⟩
    have hq : q.length = n := by simpa using h
    rw [refFrom_append, Bool.and_eq_true, ih q hq, List.nil_append]
    have hx : (q ++ [x])[q.length]? = some x := by simp
    constructor
    · rintro ⟨h1, h2⟩ i y hy
      by_cases hi : i < q.length
      · rw [List.getElem?_append_left hi] at hy
        rw [List.take_append_of_le_length (by omega)]
        exact h1 i y hy
      · have : i = q.length := by have := (List.getElem?_eq_some_iff.1 hy).1; simp at this; omega
        subst this
        rw [hx] at hy
        obtain rfl := Option.some.inj hy
        rw [List.take_left]
        simpa [refFrom] using h2
    · intro h3
      refine ⟨fun i y hy => ?_, ?_⟩
      · have hi : i < q.length := (List.getElem?_eq_some_iff.1 hy).1
        have := h3 i y (by rw [List.getElem?_append_left hi]; exact hy)
        rwa [List.take_append_of_le_length (by omega)] at this
      · have := h3 q.length x hx
        rw [List.take_left] at this
        simpa [refFrom] using this

theorem map_set_same {β : Type} {l : List Req} {k : Nat} {r r' : Req} {f : Req → β} (hr : l[k]? = some r) (hf : f r' = f r) : (l.set k r').map f = l.map f := by
  rw [List.map_set, hf]
  exact set_same (by rw [List.getElem?_map, hr]; rfl)

theorem map_take_same {β : Type} {l : List Req} {k i : Nat} {r r' : Req} {f : Req → β} (hr : l[k]? = some r) (hf : f r' = f r) : ((l.set k r').take i).map f = (l.take i).map f := by
  rw [List.map_take, List.map_take, map_set_same hr hf]

theorem aheadOf_map {l l' : List Req} (h : l.map (·.at_) = l'.map (·.at_)) : aheadOf l = aheadOf l' := by
  have e : ∀ l : List Req, aheadOf l = match (l.map (·.at_)).getLast? with | some a => a | none => 0 := by
    intro l
    unfold aheadOf
    rw [List.getLast?_map]
    cases l.getLast? <;> rfl
  rw [e, e, h]

theorem clash_map {l l' : List Req} {t : Int} (h : l.map (fun r => decide (r.table = t) && !r.done) = l'.map (fun r => decide (r.table = t) && !r.done)) : clash l t = clash l' t := by
  have e : ∀ l : List Req, clash l t = (l.map (fun r => decide (r.table = t) && !r.done)).any id := by
    intro l
    unfold clash
    rw [List.any_map]
    rfl
  rw [e, e, h]

theorem chunk_may {l : List Req} {id cursor : Int} {done : Bool} {M : List Req} (h : chunkO l id cursor done = some M) : mayB M = true := by
  unfold chunkO at h
  cases hp : placed l id with
  | none => rw [hp] at h; cases h
  | some r =>
    rw [hp] at h
    dsimp only at h
    split at h
    · rename_i hc
      obtain ⟨hm, h1, h2, h3⟩ := hc
      obtain ⟨q1, q2, hr, hd⟩ := placed_some hp
      obtain rfl := Option.some.inj h
      obtain ⟨k, hk⟩ : ∃ k, k = (id - 1).toNat := ⟨_, rfl⟩
      rw [← hk] at hr ⊢
      unfold mayB at hm ⊢
      rw [Bool.and_eq_true] at hm ⊢
      refine ⟨?_, by rw [List.length_set]; exact hm.2⟩
      have hall := (ref_iff _ l rfl).1 (by rw [ref_all]; exact hm.1)
      rw [← ref_all]
      refine (ref_iff _ _ rfl).2 fun i x hx => ?_
      have hkl : k < l.length := (List.getElem?_eq_some_iff.1 hr).1
      have hah : ∀ i, aheadOf ((l.set k { r with cursor := cursor, done := done, chunks := r.chunks + 1 }).take i) = aheadOf (l.take i) := fun i => aheadOf_map (map_take_same hr rfl)
      have hlen : ((l.set k { r with cursor := cursor, done := done, chunks := r.chunks + 1 }).take i).length = (l.take i).length := by simp
      have hcl : ∀ t, t ≠ r.table → clash ((l.set k { r with cursor := cursor, done := done, chunks := r.chunks + 1 }).take i) t = clash (l.take i) t := by
        intro t ht
        refine clash_map (map_take_same hr ?_)
        have e : decide (r.table = t) = false := by simp; exact fun h => ht h.symm
        dsimp only
        rw [e]
        rfl
      by_cases hik : i = k
      · subst hik
        rw [List.getElem?_set_self hkl] at hx
        obtain rfl := Option.some.inj hx
        have h0 := hall i r hr
        have hsame : (l.set i { r with cursor := cursor, done := done, chunks := r.chunks + 1 }).take i = l.take i := by
          rw [List.take_set, List.set_eq_of_length_le (by rw [List.length_take]; omega)]
        rw [hsame]
        unfold refStep oneB at h0 ⊢
        simp only [Bool.and_eq_true, decide_eq_true_eq] at h0 ⊢
        refine ⟨h0.1, ?_, h0.2.2⟩
        have := h0.2.1
        omega
      · rw [List.getElem?_set_ne (Ne.symm hik)] at hx
        have h0 := hall i x hx
        unfold refStep at h0 ⊢
        rw [hah, hlen]
        by_cases hit : i < k
        · have hsame : (l.set k { r with cursor := cursor, done := done, chunks := r.chunks + 1 }).take i = l.take i := by
            rw [List.take_set, List.set_eq_of_length_le (by simp; omega)]
          rw [hsame]
          exact h0
        · have hxt : x.table ≠ r.table := by
            intro e
            have hcl2 : clash (l.take i) r.table = true := clash_hit (q := k) (y := r) (by rw [List.getElem?_take, if_pos (by omega)]; exact hr) rfl hd
            rw [e, hcl2] at h0
            simp at h0
          rw [hcl _ hxt]
          exact h0
    · cases h

theorem accept_may {l : List Req} {t wt a : Int} {M : List Req} (h : acceptO l t wt a = some M) : mayB M = true := by
  unfold acceptO at h
  split at h
  · rename_i hc
    rw [Bool.and_eq_true] at hc
    obtain rfl := Option.some.inj h
    exact hc.2
  · cases h

theorem may_len {l : List Req} (h : mayB l = true) : l.length ≤ 64 := by
  unfold mayB at h
  rw [Bool.and_eq_true] at h
  exact of_decide_eq_true h.2
end Go.Proofs.Ythhpddiicnjmmaa
