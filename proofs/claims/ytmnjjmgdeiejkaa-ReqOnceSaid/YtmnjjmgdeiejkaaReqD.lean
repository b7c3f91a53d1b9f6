/- The statements' helper do of layer 14. -/
import Derived.Test.YtmnjjmgdeiejkaaReqS
import Derived.Test.YtmnjjmgdeiejkaaReqA
namespace Go.Proofs.Ytmnjjmgdeiejkaa
open Go.RowKit

/-- What the document says of an op. -/
def doO (l : List Req) (o : Op14) : Option (List Req) :=
  if modOf o.kind 7 < 3 then acceptO l (smallF l o).table (smallF l o).weight (smallF l o).at_ else chunkO l (smallF l o).id (smallF l o).cursor (smallF l o).done

theorem Answers.mono {w w' w2 : World} {o : Option (List Req)} {e : Ending} (h : Answers w2 o e w') (hb : Below w.heap.size w w2) : Answers w o e w' := by
  obtain ⟨v, he, ho, hbel⟩ := h
  exact ⟨v, he, ho.mono hb.size, hb.trans (hbel.mono hb.size)⟩

set_option maxHeartbeats 4000000 in
theorem do_any (A : Option Addr) (n c : Nat) (l : List Req) (o : Op14) (w : World) (h : IsSl reqRep w (· < w.heap.size) A n l) (hn : n ≤ 900000) (ho : o.wf) :
    Calls Try.prog 32 #[.slice A n c, .agg #[.int .i64 o.kind, .int .i64 o.table, .int .i64 o.weight, .int .i64 o.id, .int .i64 o.at_, .int .i64 o.cursor, .bool o.done]] w (Answers w (doO l o)) := by
  have H := Lib.hid h
  have HW := Lib.hid ho
  have hn1 : n ≤ 1000000 := by omega
  have hk7 := modOf_range o.kind 7 (by omega)
  obtain ⟨x, hx⟩ : ∃ x, x = smallF l o := ⟨_, rfl⟩
  have HX := Lib.hid hx
  obtain ⟨m7, hm7⟩ : ∃ m7, m7 = modOf o.kind 7 := ⟨_, rfl⟩
  rw [← hm7] at hk7
  have HM := Lib.hid hm7
  have hb0 : Below w.heap.size w (w.alloc (.cells #[.int .i64 o.kind, .int .i64 o.table, .int .i64 o.weight, .int .i64 o.id, .int .i64 o.at_, .int .i64 o.cursor, .bool o.done] 50)) := (Below.refl _ _).alloc (Nat.le_refl _) _
  have H0 := Lib.hid ((h.below hb0).more hb0.size)
  clear h ho hx hm7
  by_cases hlt : m7 < 3
  · have HD := Lib.hid (show doO l o = acceptO l x.table x.weight x.at_ by unfold doO; rw [← HM.out, if_pos hlt, ← HX.out])
    go_enter Try.func32, Try.ntmps32
    go_wp2_with (first
      | (go_at_call 28; (with_reducible refine (small_any A n c l o _ H0.out hn1 HW.out).mono ?_); rintro e w2 ⟨rfl, hwf, bel2⟩; rw [← HX.out] at hwf ⊢; rw [show Value.agg x.cells.toArray = .agg #[.int .i64 x.kind, .int .i64 x.table, .int .i64 x.weight, .int .i64 x.id, .int .i64 x.at_, .int .i64 x.cursor, .bool x.done] from rfl]; have bw2 : Below w.heap.size w w2 := hb0.trans (bel2.mono (by simp)); have hs2 := bw2.size; have c0 : w2.cell? ⟨w.heap.size, 0, none⟩ = some (.int .i64 o.kind) := (bel2.cell (p := ⟨w.heap.size, 0, none⟩) (by simp)).trans (World.cell?_alloc_at _ _ _ _ rfl); have hs2' : w.heap.size + 1 ≤ w2.heap.size := (by have := bel2.size; simpa using this); have hlt0 : w.heap.size < w2.heap.size := hs2'; have hne0 : w.heap.size ≠ w2.heap.size := Nat.ne_of_lt hlt0; obtain ⟨_, xw1, xw2, xw3, xw4, xw5⟩ := hwf; have hb3 := bw2.alloc hs2 (.cells #[.int .i64 x.kind, .int .i64 x.table, .int .i64 x.weight, .int .i64 x.id, .int .i64 x.at_, .int .i64 x.cursor, .bool x.done] 50); have H3 := Lib.hid ((H.out.below hb3).more hb3.size); have HB3 := Lib.hid hb3; clear bel2 hb3)
      | (go_at_call 19; (with_reducible refine (mod_any o.kind 7 _ (by omega) (by omega)).mono ?_); rintro e w' ⟨rfl, rfl⟩; rw [← HM.out])
      | (go_at_call 40; (with_reducible refine (refaccept_any A n c l x.table x.weight x.at_ _ H3.out hn xw1 xw2 xw4).mono ?_); rintro e w5 ⟨v5, rfl, own5, bel5⟩)
      | fail)
    go_ret2
    rw [HD.out]
    exact ⟨_, rfl, own5.mono HB3.out.size, HB3.out.trans (bel5.mono HB3.out.size)⟩
  · have HD := Lib.hid (show doO l o = chunkO l x.id x.cursor x.done by unfold doO; rw [← HM.out, if_neg hlt, ← HX.out])
    go_enter Try.func32, Try.ntmps32
    go_wp2_with (first
      | (go_at_call 28; (with_reducible refine (small_any A n c l o _ H0.out hn1 HW.out).mono ?_); rintro e w2 ⟨rfl, hwf, bel2⟩; rw [← HX.out] at hwf ⊢; rw [show Value.agg x.cells.toArray = .agg #[.int .i64 x.kind, .int .i64 x.table, .int .i64 x.weight, .int .i64 x.id, .int .i64 x.at_, .int .i64 x.cursor, .bool x.done] from rfl]; have bw2 : Below w.heap.size w w2 := hb0.trans (bel2.mono (by simp)); have hs2 := bw2.size; have c0 : w2.cell? ⟨w.heap.size, 0, none⟩ = some (.int .i64 o.kind) := (bel2.cell (p := ⟨w.heap.size, 0, none⟩) (by simp)).trans (World.cell?_alloc_at _ _ _ _ rfl); have hs2' : w.heap.size + 1 ≤ w2.heap.size := (by have := bel2.size; simpa using this); have hlt0 : w.heap.size < w2.heap.size := hs2'; have hne0 : w.heap.size ≠ w2.heap.size := Nat.ne_of_lt hlt0; obtain ⟨_, xw1, xw2, xw3, xw4, xw5⟩ := hwf; have hb3 := bw2.alloc hs2 (.cells #[.int .i64 x.kind, .int .i64 x.table, .int .i64 x.weight, .int .i64 x.id, .int .i64 x.at_, .int .i64 x.cursor, .bool x.done] 50); have H3 := Lib.hid ((H.out.below hb3).more hb3.size); have HB3 := Lib.hid hb3; clear bel2 hb3)
      | (go_at_call 19; (with_reducible refine (mod_any o.kind 7 _ (by omega) (by omega)).mono ?_); rintro e w' ⟨rfl, rfl⟩; rw [← HM.out])
      | (go_at_call 41; (with_reducible refine (refchunk_any A n c l x.id x.cursor x.done _ H3.out hn xw3 xw5).mono ?_); rintro e w5 ⟨v5, rfl, own5, bel5⟩)
      | fail)
    go_ret2
    rw [HD.out]
    exact ⟨_, rfl, own5.mono HB3.out.size, HB3.out.trans (bel5.mono HB3.out.size)⟩
end Go.Proofs.Ytmnjjmgdeiejkaa
