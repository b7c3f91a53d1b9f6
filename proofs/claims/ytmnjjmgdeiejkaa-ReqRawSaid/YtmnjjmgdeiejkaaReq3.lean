/- Contract: req.Chunk. -/
import Derived.Test.YtmnjjmgdeiejkaaReq2
namespace Go.Proofs.Ytmnjjmgdeiejkaa
open Go.RowKit

theorem req_field {α : Type} {R : Rep α} {w : World} {S : Nat → Prop} {b off n k : Nat} {l : List α} {x : α} (h : IsSl R w S (some ⟨b, off, none⟩) n l) (hx : l[k]? = some x) : ∃ cs, S b ∧ R.rel w S x cs ∧ ∀ j u, cs[j]? = some u → w.cell? ⟨b, off + k * R.size + j, none⟩ = some u := by
  have hk : k < n := by rw [h.len]; exact (List.getElem?_eq_some_iff.1 hx).1
  obtain ⟨b', off', x', cs, hA, hS, hx', hr, hc⟩ := h.at_ hk
  injection hA with hA
  injection hA with h1 h2 _
  subst h1 h2
  rw [hx] at hx'
  obtain rfl := Option.some.inj hx'
  exact ⟨cs, hS, hr, hc⟩

/-- A request's cells where it is owned. -/
theorem own_req {w : World} {base g n cap k : Nat} {S : Nat → Prop} {e : TypeId} {l : List Req} {x : Req} (h : Own reqRep w base S e (.slice (some ⟨g, 0, none⟩) n cap) l) (hx : l[k]? = some x) (j : Nat) (hj : j < 7) :
    w.cell? ⟨g, k * 7 + j, none⟩ = x.cells[j]? ∧ w.frozen? ⟨g, k * 7 + j, none⟩ = false := by
  obtain ⟨cs, u, ⟨rfl, _⟩, hu, hc, hf⟩ := h.cellAt hx (j := j) hj
  exact ⟨hc.trans hu.symm, hf⟩

theorem own_req_set {w : World} {base g n cap k : Nat} {S : Nat → Prop} {e : TypeId} {l : List Req} {x y : Req} {j : Nat} {u : Value} (h : Own reqRep w base S e (.slice (some ⟨g, 0, none⟩) n cap) l) (hx : l[k]? = some x) (hj : j < 7) (hy : y.cells = x.cells.set j u) (hw : y.wf) :
    Own reqRep (w.setCell ⟨g, k * 7 + j, none⟩ u) base S e (.slice (some ⟨g, 0, none⟩) n cap) (l.set k y) :=
  Own.store (cs := x.cells) flat_req h hx (by rintro cs ⟨rfl, _⟩; rfl) hj ⟨hy.symm, hw⟩

theorem placed_some {l : List Req} {id : Int} {r : Req} (h : placed l id = some r) : 1 ≤ id ∧ id ≤ (l.length : Int) ∧ l[(id - 1).toNat]? = some r ∧ r.done = false := by
  unfold placed at h
  split at h
  · rename_i hr
    cases hx : l[(id - 1).toNat]? with
    | none => rw [hx] at h; cases h
    | some x =>
      rw [hx] at h
      have h' : (if x.done = true then none else some x) = some r := h
      cases hd : x.done with
      | true => rw [hd] at h'; cases h'
      | false =>
        rw [hd] at h'
        simp at h'
        subst h'
        exact ⟨hr.1, hr.2, rfl, hd⟩
  · cases h

set_option maxHeartbeats 1000000 in
theorem chunk_any (A : Option Addr) (n c : Nat) (l : List Req) (id cursor : Int) (done : Bool) (w : World) (h : IsSl reqRep w (· < w.heap.size) A n l) (hn : n ≤ 900000) (hid : I64 id) (hcu : I64 cursor) :
    Calls Try.prog 31 #[.slice A n c, .int .i64 id, .int .i64 cursor, .bool done] w (Answers w (chunkO l id cursor done)) := by
  obtain ⟨i0, hi, hz0, hz1, hz2⟩ := info_parts info_req
  have HL := Lib.hid h.len
  have H := Lib.hid h
  have hn1 : n ≤ 1000000 := by omega
  obtain ⟨m1, hm1⟩ : ∃ m1, m1 = mayB l := ⟨_, rfl⟩
  have HM1 := Lib.hid hm1
  clear hm1
  cases hp : placed l id with
  | none =>
    have HP := Lib.hid hp
    have HO := Lib.hid (show chunkO l id cursor done = none by unfold chunkO; rw [hp])
    clear hp h
    cases m1
    all_goals
      go_enter Try.func31, Try.ntmps31
      go_wp2_with (first
        | (go_at_call 45; (with_reducible refine (place_any A n c l id _ H.out hn1 hid).mono ?_); rintro e w1 ⟨rfl, m, rfl⟩; rw [HP.out]; have HD := Lib.hid (show IsSl reqRep (w.drewN m) (· < (w.drewN m).heap.size) _ n l from H.out.keep fun _ _ => rfl))
        | (go_at_call 38; (with_reducible refine (May_any A n c l (w.drewN m) HD.out hn1).mono ?_); rintro e w2 ⟨rfl, bel2⟩; rw [← HM1.out]; have bw2 : Below w.heap.size w w2 := below_of_drewN bel2))
      go_ret2
      unfold Answers
      rw [HO.out]
      exact ⟨_, rfl, Own.nil _ _ _ (fun _ h => h.elim) _ _, bw2⟩
  | some r => 
    have HP := Lib.hid hp
    obtain ⟨q1, q2, q3, q4⟩ := placed_some hp
    rw [← HL.out] at q2
    obtain ⟨k, hk⟩ := Int.eq_ofNat_of_zero_le (show 0 ≤ id - 1 by omega)
    obtain rfl : id = (k : Int) + 1 := by omega
    have hkt : ((k : Int) + 1 - 1).toNat = k := by omega
    rw [hkt] at q3
    have hkn : k < n := by omega
    obtain ⟨b, off, x, cs, rfl, hbS, hx, ⟨rfl, hwf⟩, hc⟩ := h.at_ hkn
    rw [q3] at hx
    obtain rfl := Option.some.inj hx
    have hrc : I64 r.cursor := hwf.2.2.2.2.1
    have hrk : I64 r.chunks := hwf.2.2.2.2.2
    have c4 : w.cell? ⟨b, off + k * 7 + 4, none⟩ = some (.int .i64 r.cursor) := hc 4 _ rfl
    have c5 : w.cell? ⟨b, off + k * 7 + 5, none⟩ = some (.int .i64 r.chunks) := hc 5 _ rfl
    have hw2 : wrap64 ((k : Int) + 1 - 1) = (k : Int) := by rw [IntWalk.wrap64_in _ ⟨by omega, by omega⟩]; omega
    have HW := Lib.hid hw2
    have HWF := Lib.hid hwf
    have HQ3 := Lib.hid q3
    have HKT := Lib.hid hkt
    have HNE := Lib.hid (show l ≠ [] by rintro rfl; simp at q3)
    clear hp h hc hx hw2 hwf q3 hkt hk
    cases m1 with
    | false =>
      have HO := Lib.hid (show chunkO l ((k : Int) + 1) cursor done = none by unfold chunkO; rw [HP.out, ← HM1.out]; simp)
      go_enter Try.func31, Try.ntmps31
      go_wp2_with (first
        | (go_at_call 45; (with_reducible refine (place_any _ n c l _ _ H.out hn1 hid).mono ?_); rintro e w1 ⟨rfl, m, rfl⟩; rw [HP.out, HW.out]; have HD := Lib.hid (show IsSl reqRep (w.drewN m) (· < (w.drewN m).heap.size) _ n l from H.out.keep fun _ _ => rfl))
        | (go_at_call 38; (with_reducible refine (May_any _ n c l (w.drewN m) HD.out hn1).mono ?_); rintro e w2 ⟨rfl, bel2⟩; rw [← HM1.out]; have bw2 : Below w.heap.size w w2 := below_of_drewN bel2))
      go_ret2
      unfold Answers
      rw [HO.out]
      exact ⟨_, rfl, Own.nil _ _ _ (fun _ h => h.elim) _ _, bw2⟩
    | true =>
      by_cases hgood : r.cursor ≤ cursor ∧ cursor ≤ 1099511627776 ∧ r.chunks < 1099511627776
      · have HO := Lib.hid (show chunkO l ((k : Int) + 1) cursor done = some (l.set k { r with cursor := cursor, done := done, chunks := r.chunks + 1 }) by unfold chunkO; rw [HP.out, ← HM1.out, HKT.out]; simp [hgood])
        obtain ⟨g1, g2, g3⟩ := hgood
        unfold I64 at hrk
        go_enter Try.func31, Try.ntmps31
        go_wp2_with (first
          | (go_at_call 45; (with_reducible refine (place_any _ n c l _ _ H.out hn1 hid).mono ?_); rintro e w1 ⟨rfl, m, rfl⟩; rw [HP.out, HW.out]; have HD := Lib.hid (show IsSl reqRep (w.drewN m) (· < (w.drewN m).heap.size) _ n l from H.out.keep fun _ _ => rfl))
          | (go_at_call 38; (with_reducible refine (May_any _ n c l (w.drewN m) HD.out hn1).mono ?_); rintro e w2 ⟨rfl, bel2⟩; rw [← HM1.out]; have bw2 : Below w.heap.size w w2 := below_of_drewN bel2; have d4 := (bw2.cell (p := ⟨b, off + k * 7 + 4, none⟩) hbS).trans c4; have d5 := (bw2.cell (p := ⟨b, off + k * 7 + 5, none⟩) hbS).trans c5; have hs2 := bw2.size; have H2 := Lib.hid (((H.out).below bw2).more hs2))
          | (go_at_call 44; (with_reducible refine (cloneReq_any _ n c l w2 H2.out hn1).mono ?_); rintro e w3 ⟨v3, rfl, own3, bel3⟩; have hf3 := own3.form1 HNE.out; rw [← HL.out] at hf3; obtain ⟨g, cap, rfl, hgB, hgl, hcp1, hcp2⟩ := hf3; have OWN := Lib.hid own3; have f4 : w3.cell? ⟨g, k * 7 + 4, none⟩ = some (.int .i64 r.cursor) := (own_req own3 HQ3.out 4 (by omega)).1; have f5 : w3.cell? ⟨g, k * 7 + 5, none⟩ = some (.int .i64 r.chunks) := (own_req own3 HQ3.out 5 (by omega)).1; have f6 : w3.cell? ⟨g, k * 7 + 6, none⟩ = some (.bool r.done) := (own_req own3 HQ3.out 6 (by omega)).1; have z4 := (own_req own3 HQ3.out 4 (by omega)).2; have z5 := (own_req own3 HQ3.out 5 (by omega)).2; have z6 := (own_req own3 HQ3.out 6 (by omega)).2; have bw3 : Below w.heap.size w w3 := bw2.trans (bel3.mono hs2); clear own3))
        go_ret2
        unfold Answers
        rw [HO.out]
        obtain ⟨u0, u1, u2, u3, u4, u5⟩ := HWF.out
        have own4 := own_req_set (y := { r with cursor := cursor }) (j := 4) (u := .int .i64 cursor) OWN.out HQ3.out (by omega) rfl ⟨u0, u1, u2, u3, hcu, u5⟩
        have hkl : k < l.length := by rw [← HL.out]; exact hkn
        have e1 : (l.set k { r with cursor := cursor })[k]? = some { r with cursor := cursor } := List.getElem?_set_self hkl
        have own5 := own_req_set (y := { r with cursor := cursor, done := done }) (j := 6) (u := .bool done) own4 e1 (by omega) rfl ⟨u0, u1, u2, u3, hcu, u5⟩
        rw [List.set_set] at own5
        have e2 : (l.set k { r with cursor := cursor, done := done })[k]? = some { r with cursor := cursor, done := done } := List.getElem?_set_self hkl
        have own6 := own_req_set (y := { r with cursor := cursor, done := done, chunks := r.chunks + 1 }) (j := 5) (u := .int .i64 (r.chunks + 1)) own5 e2 (by omega) rfl ⟨u0, u1, u2, u3, hcu, by unfold I64; dsimp only; omega⟩
        rw [List.set_set] at own6
        have hgw : w.heap.size ≤ g := Nat.le_trans hs2 hgB
        exact ⟨_, rfl, own6.mono hs2, ((bw3.setCell hgw _).setCell hgw _).setCell hgw _⟩
      · have HO := Lib.hid (show chunkO l ((k : Int) + 1) cursor done = none by unfold chunkO; rw [HP.out, ← HM1.out]; simp [hgood])
        have hbad : cursor < r.cursor ∨ (r.cursor ≤ cursor ∧ 1099511627776 < cursor) ∨ (r.cursor ≤ cursor ∧ cursor ≤ 1099511627776 ∧ 1099511627776 ≤ r.chunks) := by omega
        clear hgood
        rcases hbad with hb1 | ⟨hb1, hb2⟩ | ⟨hb1, hb2, hb3⟩
        all_goals
          go_enter Try.func31, Try.ntmps31
          go_wp2_with (first
            | (go_at_call 45; (with_reducible refine (place_any _ n c l _ _ H.out hn1 hid).mono ?_); rintro e w1 ⟨rfl, m, rfl⟩; rw [HP.out, HW.out]; have HD := Lib.hid (show IsSl reqRep (w.drewN m) (· < (w.drewN m).heap.size) _ n l from H.out.keep fun _ _ => rfl))
            | (go_at_call 38; (with_reducible refine (May_any _ n c l (w.drewN m) HD.out hn1).mono ?_); rintro e w2 ⟨rfl, bel2⟩; rw [← HM1.out]; have bw2 : Below w.heap.size w w2 := below_of_drewN bel2; have d4 := (bw2.cell (p := ⟨b, off + k * 7 + 4, none⟩) hbS).trans c4; have d5 := (bw2.cell (p := ⟨b, off + k * 7 + 5, none⟩) hbS).trans c5))
          go_ret2
          unfold Answers
          rw [HO.out]
          exact ⟨_, rfl, Own.nil _ _ _ (fun _ h => h.elim) _ _, bw2⟩
end Go.Proofs.Ytmnjjmgdeiejkaa
