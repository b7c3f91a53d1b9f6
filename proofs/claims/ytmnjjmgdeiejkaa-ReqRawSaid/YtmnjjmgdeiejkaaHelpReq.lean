/- Contracts of what statements share (qanathelp): Plain, Same; Own, Kept, Spoil. Written by gen_help.py. -/
import Derived.Test.YtmnjjmgdeiejkaaReqR3
import Derived.Test.YtmnjjmgdeiejkaaHelpL
import Derived.Handy
import Derived.Deep.RegionHeld3
import Derived.Deep.QuietTactic
import Derived.BigQuiet
namespace Go.Proofs.Ytmnjjmgdeiejkaa
open Go.RowKit

/-! ### qanat/api.Req -/
set_option maxHeartbeats 1000000 in
theorem plain1_req (x : Req) (w : World) :
    Calls Try.prog 47 #[.agg #[.int .i64 x.id, .int .i64 x.table, .int .i64 x.weight, .int .i64 x.at_, .int .i64 x.cursor, .int .i64 x.chunks, .bool x.done], .agg #[.int .i64 x.id, .int .i64 x.table, .int .i64 x.weight, .int .i64 x.at_, .int .i64 x.cursor, .int .i64 x.chunks, .bool x.done]] w fun e w' => e = .returned (.bool true) ∧ Below w.heap.size w w' := by
  go_enter Try.func47, Try.ntmps47
  go_wp2
  go_ret
  first
    | exact ⟨rfl, Below.refl _ _⟩
    | exact ⟨by simp, Below.refl _ _⟩
    | exact ⟨rfl, ((Below.refl _ _).alloc (Nat.le_refl _) _).alloc (by simp) _⟩
    | exact ⟨by simp, ((Below.refl _ _).alloc (Nat.le_refl _) _).alloc (by simp) _⟩

set_option maxHeartbeats 2000000 in
theorem same_req (A A2 : Option Addr) (m c c2 : Nat) (l : List Req) (w : World) (h : IsSl reqRep w (· < w.heap.size) A m l) (h2 : IsSl reqRep w (· < w.heap.size) A2 m l) (hn : m ≤ 281474976710656) :
    Calls Try.prog 46 #[.slice A m c, .slice A2 m c2, .func (.func 47) #[] #[]] w fun e w' => e = .returned (.bool true) ∧ Below w.heap.size w w' := by
  go_enter Try.func46, Try.ntmps46
  go_wp2_with fail
  go_loopw [7] (fun i wr => ∃ p : Nat, i = .int .i64 p ∧ p ≤ m ∧ Below w.heap.size w wr) (fun i _ => m - (intOf i).toNat)
  case atStart => exact ⟨0, rfl, Nat.zero_le _, Below.refl _ _⟩
  case round =>
    obtain ⟨p, rfl, hp, hbel⟩ := hrel
    obtain ⟨wo, rfl⟩ : ∃ wo : World, wo = wr := ⟨_, rfl⟩
    by_cases hlt : p < m
    · obtain ⟨b, off, x, cs, rfl, hbS, hx, ⟨rfl, hwf⟩, hc⟩ := h.at_ hlt
      obtain ⟨b2, off2, x2, cs2, rfl, hbS2, hx2, ⟨rfl, hwf2⟩, hc2⟩ := h2.at_ hlt
      obtain rfl : x = x2 := Option.some.inj (hx.symm.trans hx2)
      have c0 : wo.cell? ⟨b, off + p * 7, none⟩ = some (.int .i64 x.id) := (hbel.cell hbS).trans (hc 0 _ rfl)
      have d0 : wo.cell? ⟨b2, off2 + p * 7, none⟩ = some (.int .i64 x.id) := (hbel.cell hbS2).trans (hc2 0 _ rfl)
      have c1 : wo.cell? ⟨b, off + p * 7 + 1, none⟩ = some (.int .i64 x.table) := (hbel.cell hbS).trans (hc 1 _ rfl)
      have d1 : wo.cell? ⟨b2, off2 + p * 7 + 1, none⟩ = some (.int .i64 x.table) := (hbel.cell hbS2).trans (hc2 1 _ rfl)
      have c2 : wo.cell? ⟨b, off + p * 7 + 2, none⟩ = some (.int .i64 x.weight) := (hbel.cell hbS).trans (hc 2 _ rfl)
      have d2 : wo.cell? ⟨b2, off2 + p * 7 + 2, none⟩ = some (.int .i64 x.weight) := (hbel.cell hbS2).trans (hc2 2 _ rfl)
      have c3 : wo.cell? ⟨b, off + p * 7 + 3, none⟩ = some (.int .i64 x.at_) := (hbel.cell hbS).trans (hc 3 _ rfl)
      have d3 : wo.cell? ⟨b2, off2 + p * 7 + 3, none⟩ = some (.int .i64 x.at_) := (hbel.cell hbS2).trans (hc2 3 _ rfl)
      have c4 : wo.cell? ⟨b, off + p * 7 + 4, none⟩ = some (.int .i64 x.cursor) := (hbel.cell hbS).trans (hc 4 _ rfl)
      have d4 : wo.cell? ⟨b2, off2 + p * 7 + 4, none⟩ = some (.int .i64 x.cursor) := (hbel.cell hbS2).trans (hc2 4 _ rfl)
      have c5 : wo.cell? ⟨b, off + p * 7 + 5, none⟩ = some (.int .i64 x.chunks) := (hbel.cell hbS).trans (hc 5 _ rfl)
      have d5 : wo.cell? ⟨b2, off2 + p * 7 + 5, none⟩ = some (.int .i64 x.chunks) := (hbel.cell hbS2).trans (hc2 5 _ rfl)
      have c6 : wo.cell? ⟨b, off + p * 7 + 6, none⟩ = some (.bool x.done) := (hbel.cell hbS).trans (hc 6 _ rfl)
      have d6 : wo.cell? ⟨b2, off2 + p * 7 + 6, none⟩ = some (.bool x.done) := (hbel.cell hbS2).trans (hc2 6 _ rfl)
      have hs0 := hbel.size
      have hw1 : b < wo.heap.size := Nat.lt_of_lt_of_le hbS hs0
      have hw2 : b2 < wo.heap.size := Nat.lt_of_lt_of_le hbS2 hs0
      clear hc hc2 hx hx2 h h2 hwf hwf2
      go_wp2_with fail
      go_region_held3 (fun w' => w'.cell? ⟨b, off + p * 7, none⟩ = some (.int .i64 x.id) ∧ w'.cell? ⟨b, off + p * 7 + 1, none⟩ = some (.int .i64 x.table) ∧ w'.cell? ⟨b, off + p * 7 + 2, none⟩ = some (.int .i64 x.weight) ∧ w'.cell? ⟨b, off + p * 7 + 3, none⟩ = some (.int .i64 x.at_) ∧ w'.cell? ⟨b, off + p * 7 + 4, none⟩ = some (.int .i64 x.cursor) ∧ w'.cell? ⟨b, off + p * 7 + 5, none⟩ = some (.int .i64 x.chunks) ∧ w'.cell? ⟨b, off + p * 7 + 6, none⟩ = some (.bool x.done) ∧ w'.cell? ⟨b2, off2 + p * 7, none⟩ = some (.int .i64 x.id) ∧ w'.cell? ⟨b2, off2 + p * 7 + 1, none⟩ = some (.int .i64 x.table) ∧ w'.cell? ⟨b2, off2 + p * 7 + 2, none⟩ = some (.int .i64 x.weight) ∧ w'.cell? ⟨b2, off2 + p * 7 + 3, none⟩ = some (.int .i64 x.at_) ∧ w'.cell? ⟨b2, off2 + p * 7 + 4, none⟩ = some (.int .i64 x.cursor) ∧ w'.cell? ⟨b2, off2 + p * 7 + 5, none⟩ = some (.int .i64 x.chunks) ∧ w'.cell? ⟨b2, off2 + p * 7 + 6, none⟩ = some (.bool x.done)) (first | exact ⟨c0, c1, c2, c3, c4, c5, c6, d0, d1, d2, d3, d4, d5, d6⟩ | exact ⟨(bel2.cell hw1).trans c0, (bel2.cell hw1).trans c1, (bel2.cell hw1).trans c2, (bel2.cell hw1).trans c3, (bel2.cell hw1).trans c4, (bel2.cell hw1).trans c5, (bel2.cell hw1).trans c6, (bel2.cell hw2).trans d0, (bel2.cell hw2).trans d1, (bel2.cell hw2).trans d2, (bel2.cell hw2).trans d3, (bel2.cell hw2).trans d4, (bel2.cell hw2).trans d5, (bel2.cell hw2).trans d6⟩)
        (first | (go_at_call 47; (with_reducible refine (plain1_req x _).mono ?_); rintro e w' ⟨rfl, bel2⟩))
      go_wp2
      go_roundw
      case rel => exact ⟨p + 1, by go_num, by omega, hbel.trans (Below.mono (B := wo.drew.heap.size) (w := wo) ⟨bel2.os, bel2.tape, bel2.output, bel2.size, bel2.block⟩ hs0)⟩
      case measure => simp [intOf]; omega
    · go_wp2
      go_ret
      exact ⟨rfl, hbel⟩

theorem plain_req (A A2 : Option Addr) (n m c c2 : Nat) (l : List Req) (w : World) (h : IsSl reqRep w (· < w.heap.size) A n l) (h2 : IsSl reqRep w (· < w.heap.size) A2 m l) (hn : n ≤ 281474976710656) :
    Calls Try.prog 33 #[.slice A n c, .slice A2 m c2] w fun e w' => e = .returned (.bool true) ∧ Below w.heap.size w w' := by
  obtain rfl : m = n := h2.len.trans h.len.symm
  have H := Lib.hid h
  have H2 := Lib.hid h2
  clear h h2
  go_enter Try.func33, Try.ntmps33
  go_wp2_with (go_at_call 46; (with_reducible refine (same_req A A2 m c c2 l _ H.out H2.out hn).mono ?_); rintro e w' ⟨rfl, bel2⟩)
  go_ret
  exact ⟨rfl, bel2⟩

theorem info_h_req : (Try.prog.info? 54).map (fun i => (i.zero, i.size, i.bytes)) = some (some (.agg #[.int .i64 0, .int .i64 0, .int .i64 0, .int .i64 0, .int .i64 0, .int .i64 0, .bool false]), 7, 56) := by kernel_rfl

set_option maxHeartbeats 2000000 in
theorem ownCopy_req (A : Option Addr) (n c : Nat) (l : List Req) (x : Req) (w : World) (h : IsSl reqRep w (· < w.heap.size) A n l) (hxw : x.wf) (hn : n ≤ 100000000000) :
    Calls Try.prog 29 #[.slice A n c, .agg #[.int .i64 x.id, .int .i64 x.table, .int .i64 x.weight, .int .i64 x.at_, .int .i64 x.cursor, .int .i64 x.chunks, .bool x.done]] w fun e w' => ∃ g cap, e = .returned (.slice (some ⟨g, 0, none⟩) n (n + 3)) ∧ Own reqRep w' w.heap.size (fun _ => False) 54 (.slice (some ⟨g, 0, none⟩) (n + 3) cap) (l ++ [x, x, x]) ∧ Below w.heap.size w w' := by
  obtain ⟨i0, hi, hz0, hz1, hz2⟩ := info_parts info_h_req
  have HL := Lib.hid h.len
  have H := Lib.hid h
  have hb0 : Below w.heap.size w (w.alloc (.cells #[.int .i64 x.id, .int .i64 x.table, .int .i64 x.weight, .int .i64 x.at_, .int .i64 x.cursor, .int .i64 x.chunks, .bool x.done] 54)) := (Below.refl _ _).alloc (Nat.le_refl _) _
  have hb1 : Below w.heap.size w ((w.alloc (.cells #[.int .i64 x.id, .int .i64 x.table, .int .i64 x.weight, .int .i64 x.at_, .int .i64 x.cursor, .int .i64 x.chunks, .bool x.done] 54)).alloc (.cells #[] 54)) := hb0.alloc (by simp) _
  clear h
  go_enter Try.func29, Try.ntmps29
  go_wp2_with (first
    | (at_builtin; refine wpList_append_Own _ rfl (.tmp 6) (.tmp 7) 48 rfl (w.heap.size + 1) 54 i0 _ 56 Try.underlying48 hi hz0 hz1 hz2 rfl (R := reqRep) (S := fun _ => False) (l := []) (l' := l) (.slice (some ⟨w.heap.size + 1, 0, none⟩) 0 0) rfl (Own.nil _ _ _ (fun _ h => h.elim) _ _) _ n c rfl ((H.out).srcF flat_req hb1) (by simp only [maxLen, List.length_nil]; omega) (by simp only [List.length_nil]; omega) (by omega) (by simp) ?_; intro v1 w1 own1 gr1 at1; have bel1 := hb1.grown gr1 (by simp; omega) (by intro k hk; simp [rowOf] at hk); have bq := ((Below.refl (w.heap.size + 1) (w.alloc (.cells #[.int .i64 x.id, .int .i64 x.table, .int .i64 x.weight, .int .i64 x.at_, .int .i64 x.cursor, .int .i64 x.chunks, .bool x.done] 54))).alloc (by simp) (.cells #[] 54)).grown gr1 (by simp) (by intro k hk; simp [rowOf] at hk); simp only [List.nil_append] at own1; clear gr1 at1; have hf1 := own1.form; rw [← HL.out] at hf1; obtain ⟨A1, c1, rfl⟩ := hf1; have hs1 := bel1.size; have hs2 : w.heap.size + 1 ≤ w1.heap.size := by have := bq.size; simpa using this
       have f0 : w1.cell? ⟨w.heap.size, 0, none⟩ = some (.int .i64 x.id) := (bq.cell (p := ⟨w.heap.size, 0, none⟩) (by simp)).trans (World.cell?_alloc_at _ _ _ _ rfl)
       have f1 : w1.cell? ⟨w.heap.size, 1, none⟩ = some (.int .i64 x.table) := (bq.cell (p := ⟨w.heap.size, 1, none⟩) (by simp)).trans (World.cell?_alloc_at _ _ _ _ rfl)
       have f2 : w1.cell? ⟨w.heap.size, 2, none⟩ = some (.int .i64 x.weight) := (bq.cell (p := ⟨w.heap.size, 2, none⟩) (by simp)).trans (World.cell?_alloc_at _ _ _ _ rfl)
       have f3 : w1.cell? ⟨w.heap.size, 3, none⟩ = some (.int .i64 x.at_) := (bq.cell (p := ⟨w.heap.size, 3, none⟩) (by simp)).trans (World.cell?_alloc_at _ _ _ _ rfl)
       have f4 : w1.cell? ⟨w.heap.size, 4, none⟩ = some (.int .i64 x.cursor) := (bq.cell (p := ⟨w.heap.size, 4, none⟩) (by simp)).trans (World.cell?_alloc_at _ _ _ _ rfl)
       have f5 : w1.cell? ⟨w.heap.size, 5, none⟩ = some (.int .i64 x.chunks) := (bq.cell (p := ⟨w.heap.size, 5, none⟩) (by simp)).trans (World.cell?_alloc_at _ _ _ _ rfl)
       have f6 : w1.cell? ⟨w.heap.size, 6, none⟩ = some (.bool x.done) := (bq.cell (p := ⟨w.heap.size, 6, none⟩) (by simp)).trans (World.cell?_alloc_at _ _ _ _ rfl))
    | (at_builtin; refine wpList_append_Own _ rfl (.tmp 9) (.tmp 13) 48 rfl (w.heap.size + 1) 54 i0 _ 56 Try.underlying48 hi hz0 hz1 hz2 rfl (R := reqRep) (S := fun _ => False) (l := l) (l' := [x, x, x]) (.slice A1 n c1) rfl (own1.alloc _) _ 3 _ rfl (Src.new3 (xs := [.int .i64 x.id, .int .i64 x.table, .int .i64 x.weight, .int .i64 x.at_, .int .i64 x.cursor, .int .i64 x.chunks, .bool x.done, .int .i64 x.id, .int .i64 x.table, .int .i64 x.weight, .int .i64 x.at_, .int .i64 x.cursor, .int .i64 x.chunks, .bool x.done, .int .i64 x.id, .int .i64 x.table, .int .i64 x.weight, .int .i64 x.at_, .int .i64 x.cursor, .int .i64 x.chunks, .bool x.done]) ⟨rfl, hxw⟩ rfl) (by simp only [maxLen]; rw [← HL.out]; omega) (by rw [← HL.out]; omega) (by omega) (by simp; omega) ?_; intro v2 w2 own2 gr2 at2; have bel2 : Below w.heap.size w w2 := (bel1.alloc hs1 _).grown gr2 (by simp; omega) (fun k hk => by have := own1.row_ge hk; omega); clear gr2 at2; have hf2 := own2.form1 (by simp); rw [show (l ++ [x, x, x]).length = n + 3 by rw [List.length_append, ← HL.out]; rfl] at hf2; obtain ⟨g, cap, rfl, hgB, hgl, hcp1, hcp2⟩ := hf2; have OWN2 := Lib.hid own2; clear own2))
  go_ret
  exact ⟨g, cap, rfl, OWN2.out.mono (by omega), bel2⟩

set_option maxHeartbeats 2000000 in
theorem kept_req (g n c2 : Nat) (A2 : Option Addr) (l : List Req) (x : Req) (w : World) (h : IsSl reqRep w (· < w.heap.size) (some ⟨g, 0, none⟩) (n + 3) (l ++ [x, x, x])) (h2 : IsSl reqRep w (· < w.heap.size) A2 n l) (hn : n ≤ 1000000000) :
    Calls Try.prog 34 #[.slice (some ⟨g, 0, none⟩) n (n + 3), .slice A2 n c2, .agg #[.int .i64 x.id, .int .i64 x.table, .int .i64 x.weight, .int .i64 x.at_, .int .i64 x.cursor, .int .i64 x.chunks, .bool x.done]] w fun e w' => e = .returned (.bool true) ∧ Below w.heap.size w w' := by
  have HL := Lib.hid h2.len
  have hb0 : Below w.heap.size w (w.alloc (.cells #[.int .i64 x.id, .int .i64 x.table, .int .i64 x.weight, .int .i64 x.at_, .int .i64 x.cursor, .int .i64 x.chunks, .bool x.done] 54)) := (Below.refl _ _).alloc (Nat.le_refl _) _
  have H := Lib.hid h
  have H1 := Lib.hid (((h.cutTo (hi := n) (by omega)).below hb0).more hb0.size)
  rw [show (l ++ [x, x, x]).take n = l by rw [h2.len, List.take_left]] at H1
  have H2 := Lib.hid ((h2.below hb0).more hb0.size)
  clear h h2
  go_enter Try.func34, Try.ntmps34
  go_wp2_with (go_at_call 33; (with_reducible refine (plain_req _ A2 n n (n + 3) c2 l _ H1.out H2.out (by omega)).mono ?_); rintro e w2 ⟨rfl, bel2⟩)
  have hbq : Below (w.heap.size + 1) (w.alloc (.cells #[.int .i64 x.id, .int .i64 x.table, .int .i64 x.weight, .int .i64 x.at_, .int .i64 x.cursor, .int .i64 x.chunks, .bool x.done] 54)) w2 := bel2.mono (by simp)
  clear bel2
  go_loopw [8] (fun i wr => ∃ p : Nat, i = .int .i64 p ∧ n ≤ p ∧ p ≤ n + 3 ∧ Below (w.heap.size + 1) (w.alloc (.cells #[.int .i64 x.id, .int .i64 x.table, .int .i64 x.weight, .int .i64 x.at_, .int .i64 x.cursor, .int .i64 x.chunks, .bool x.done] 54)) wr) (fun i _ => n + 3 - (intOf i).toNat)
  case atStart => exact ⟨n, rfl, Nat.le_refl _, by omega, hbq⟩
  case round =>
    obtain ⟨p, rfl, hp0, hp, hbel⟩ := hrel
    obtain ⟨wo, rfl⟩ : ∃ wo : World, wo = wr := ⟨_, rfl⟩
    have hbelw : Below w.heap.size w wo := hb0.trans (hbel.mono (by omega))
    by_cases hlt : p < n + 3
    · obtain ⟨b, off, y, cs, hA, hbS, hx, ⟨rfl, hwf⟩, hc⟩ := H.out.at_ hlt
      obtain rfl : x = y := by
        rw [List.getElem?_append_right (by rw [← HL.out]; exact hp0), ← HL.out] at hx
        have : p - n = 0 ∨ p - n = 1 ∨ p - n = 2 := by omega
        rcases this with e | e | e <;> (rw [e] at hx; exact Option.some.inj hx)
      injection hA with hA
      injection hA with e1 e2 _
      subst e1 e2
      have c0 : wo.cell? ⟨g, p * 7, none⟩ = some (.int .i64 x.id) := (hbelw.cell (p := ⟨g, p * 7, none⟩) hbS).trans (by have e := hc 0 _ rfl; rw [Nat.zero_add] at e; exact e)
      have c1 : wo.cell? ⟨g, p * 7 + 1, none⟩ = some (.int .i64 x.table) := (hbelw.cell (p := ⟨g, p * 7 + 1, none⟩) hbS).trans (by have e := hc 1 _ rfl; rw [Nat.zero_add] at e; exact e)
      have c2 : wo.cell? ⟨g, p * 7 + 2, none⟩ = some (.int .i64 x.weight) := (hbelw.cell (p := ⟨g, p * 7 + 2, none⟩) hbS).trans (by have e := hc 2 _ rfl; rw [Nat.zero_add] at e; exact e)
      have c3 : wo.cell? ⟨g, p * 7 + 3, none⟩ = some (.int .i64 x.at_) := (hbelw.cell (p := ⟨g, p * 7 + 3, none⟩) hbS).trans (by have e := hc 3 _ rfl; rw [Nat.zero_add] at e; exact e)
      have c4 : wo.cell? ⟨g, p * 7 + 4, none⟩ = some (.int .i64 x.cursor) := (hbelw.cell (p := ⟨g, p * 7 + 4, none⟩) hbS).trans (by have e := hc 4 _ rfl; rw [Nat.zero_add] at e; exact e)
      have c5 : wo.cell? ⟨g, p * 7 + 5, none⟩ = some (.int .i64 x.chunks) := (hbelw.cell (p := ⟨g, p * 7 + 5, none⟩) hbS).trans (by have e := hc 5 _ rfl; rw [Nat.zero_add] at e; exact e)
      have c6 : wo.cell? ⟨g, p * 7 + 6, none⟩ = some (.bool x.done) := (hbelw.cell (p := ⟨g, p * 7 + 6, none⟩) hbS).trans (by have e := hc 6 _ rfl; rw [Nat.zero_add] at e; exact e)
      have f0 : wo.cell? ⟨w.heap.size, 0, none⟩ = some (.int .i64 x.id) := (hbel.cell (p := ⟨w.heap.size, 0, none⟩) (by simp)).trans (World.cell?_alloc_at _ _ _ _ rfl)
      have f1 : wo.cell? ⟨w.heap.size, 1, none⟩ = some (.int .i64 x.table) := (hbel.cell (p := ⟨w.heap.size, 1, none⟩) (by simp)).trans (World.cell?_alloc_at _ _ _ _ rfl)
      have f2 : wo.cell? ⟨w.heap.size, 2, none⟩ = some (.int .i64 x.weight) := (hbel.cell (p := ⟨w.heap.size, 2, none⟩) (by simp)).trans (World.cell?_alloc_at _ _ _ _ rfl)
      have f3 : wo.cell? ⟨w.heap.size, 3, none⟩ = some (.int .i64 x.at_) := (hbel.cell (p := ⟨w.heap.size, 3, none⟩) (by simp)).trans (World.cell?_alloc_at _ _ _ _ rfl)
      have f4 : wo.cell? ⟨w.heap.size, 4, none⟩ = some (.int .i64 x.cursor) := (hbel.cell (p := ⟨w.heap.size, 4, none⟩) (by simp)).trans (World.cell?_alloc_at _ _ _ _ rfl)
      have f5 : wo.cell? ⟨w.heap.size, 5, none⟩ = some (.int .i64 x.chunks) := (hbel.cell (p := ⟨w.heap.size, 5, none⟩) (by simp)).trans (World.cell?_alloc_at _ _ _ _ rfl)
      have f6 : wo.cell? ⟨w.heap.size, 6, none⟩ = some (.bool x.done) := (hbel.cell (p := ⟨w.heap.size, 6, none⟩) (by simp)).trans (World.cell?_alloc_at _ _ _ _ rfl)
      have hgw : g < wo.heap.size := Nat.lt_of_lt_of_le hbS hbelw.size
      clear hx hc
      go_wp2_with fail
      go_quiet (fail)
      go_wp2
      go_roundw
      case rel => exact ⟨p + 1, by go_num, by omega, by omega, by first | exact hbel | exact below_drewN hbel _⟩
      case measure => simp [intOf]; omega
    · go_wp2
      go_ret
      exact ⟨rfl, hbelw⟩

set_option maxHeartbeats 2000000 in
theorem spoil_req (g n c N B : Nat) (w : World) (hsol : Solid w g (N * 7)) (hn : n ≤ N) (hn2 : n ≤ 281474976710656) (hg : B ≤ g) (hgs : g < w.heap.size) :
    Calls Try.prog 37 #[.slice (some ⟨g, 0, none⟩) n c] w fun e w' => e = .returned (.tuple #[]) ∧ Below B w w' := by
  have hne : g ≠ w.heap.size := by omega
  have hne2 : w.heap.size ≠ g := by omega
  have hB : B ≤ w.heap.size := by omega
  go_enter Try.func37, Try.ntmps37
  go_wp2_with fail
  go_loopw [3] (fun i wr => ∃ p : Nat, i = .int .i64 p ∧ p ≤ n ∧ wr.heap[w.heap.size]? = (w.alloc (.cells #[.int .i64 0, .int .i64 0, .int .i64 0, .int .i64 0, .int .i64 0, .int .i64 0, .bool false] 54)).heap[w.heap.size]? ∧ Solid wr g (N * 7) ∧ Below B w wr) (fun i _ => n - (intOf i).toNat)
  case atStart => exact ⟨0, rfl, Nat.zero_le _, rfl, hsol.below ((Below.refl w.heap.size w).alloc (Nat.le_refl _) _) hgs, (Below.refl _ _).alloc hB _⟩
  case round =>
    obtain ⟨p, rfl, hp, hz, hsol, hbel⟩ := hrel
    obtain ⟨wo, rfl⟩ : ∃ wo : World, wo = wr := ⟨_, rfl⟩
    by_cases hlt : p < n
    · have hNp : p + 1 ≤ N := by omega
      obtain ⟨u0, c0, z0⟩ : ∃ u, wo.cell? ⟨g, p * 7, none⟩ = some u ∧ wo.frozen? ⟨g, p * 7, none⟩ = false := hsol _ (by omega)
      obtain ⟨u1, c1, z1⟩ : ∃ u, wo.cell? ⟨g, p * 7 + 1, none⟩ = some u ∧ wo.frozen? ⟨g, p * 7 + 1, none⟩ = false := hsol _ (by omega)
      obtain ⟨u2, c2, z2⟩ : ∃ u, wo.cell? ⟨g, p * 7 + 2, none⟩ = some u ∧ wo.frozen? ⟨g, p * 7 + 2, none⟩ = false := hsol _ (by omega)
      obtain ⟨u3, c3, z3⟩ : ∃ u, wo.cell? ⟨g, p * 7 + 3, none⟩ = some u ∧ wo.frozen? ⟨g, p * 7 + 3, none⟩ = false := hsol _ (by omega)
      obtain ⟨u4, c4, z4⟩ : ∃ u, wo.cell? ⟨g, p * 7 + 4, none⟩ = some u ∧ wo.frozen? ⟨g, p * 7 + 4, none⟩ = false := hsol _ (by omega)
      obtain ⟨u5, c5, z5⟩ : ∃ u, wo.cell? ⟨g, p * 7 + 5, none⟩ = some u ∧ wo.frozen? ⟨g, p * 7 + 5, none⟩ = false := hsol _ (by omega)
      obtain ⟨u6, c6, z6⟩ : ∃ u, wo.cell? ⟨g, p * 7 + 6, none⟩ = some u ∧ wo.frozen? ⟨g, p * 7 + 6, none⟩ = false := hsol _ (by omega)
      have f0 : wo.cell? ⟨w.heap.size, 0, none⟩ = some (.int .i64 0) := (World.cell?_of_block (a := ⟨w.heap.size, 0, none⟩) hz).trans (World.cell?_alloc_at _ _ _ _ rfl)
      have f1 : wo.cell? ⟨w.heap.size, 1, none⟩ = some (.int .i64 0) := (World.cell?_of_block (a := ⟨w.heap.size, 1, none⟩) hz).trans (World.cell?_alloc_at _ _ _ _ rfl)
      have f2 : wo.cell? ⟨w.heap.size, 2, none⟩ = some (.int .i64 0) := (World.cell?_of_block (a := ⟨w.heap.size, 2, none⟩) hz).trans (World.cell?_alloc_at _ _ _ _ rfl)
      have f3 : wo.cell? ⟨w.heap.size, 3, none⟩ = some (.int .i64 0) := (World.cell?_of_block (a := ⟨w.heap.size, 3, none⟩) hz).trans (World.cell?_alloc_at _ _ _ _ rfl)
      have f4 : wo.cell? ⟨w.heap.size, 4, none⟩ = some (.int .i64 0) := (World.cell?_of_block (a := ⟨w.heap.size, 4, none⟩) hz).trans (World.cell?_alloc_at _ _ _ _ rfl)
      have f5 : wo.cell? ⟨w.heap.size, 5, none⟩ = some (.int .i64 0) := (World.cell?_of_block (a := ⟨w.heap.size, 5, none⟩) hz).trans (World.cell?_alloc_at _ _ _ _ rfl)
      have f6 : wo.cell? ⟨w.heap.size, 6, none⟩ = some (.bool false) := (World.cell?_of_block (a := ⟨w.heap.size, 6, none⟩) hz).trans (World.cell?_alloc_at _ _ _ _ rfl)
      have HZ := Lib.hid hz
      have HS := Lib.hid hsol
      clear hz hsol
      go_wp2_with fail
      go_roundw
      case rel => exact ⟨p + 1, by go_num, by omega, (Below.heap_setCell _ _ _ _ hne2).trans ((Below.heap_setCell _ _ _ _ hne2).trans ((Below.heap_setCell _ _ _ _ hne2).trans ((Below.heap_setCell _ _ _ _ hne2).trans ((Below.heap_setCell _ _ _ _ hne2).trans ((Below.heap_setCell _ _ _ _ hne2).trans ((Below.heap_setCell _ _ _ _ hne2).trans (HZ.out))))))), (((((((HS.out).set (k := p * 7) (by omega) _).set (k := p * 7 + 1) (by omega) _).set (k := p * 7 + 2) (by omega) _).set (k := p * 7 + 3) (by omega) _).set (k := p * 7 + 4) (by omega) _).set (k := p * 7 + 5) (by omega) _).set (k := p * 7 + 6) (by omega) _, (((((((hbel).setCell (p := ⟨g, p * 7, none⟩) hg _).setCell (p := ⟨g, p * 7 + 1, none⟩) hg _).setCell (p := ⟨g, p * 7 + 2, none⟩) hg _).setCell (p := ⟨g, p * 7 + 3, none⟩) hg _).setCell (p := ⟨g, p * 7 + 4, none⟩) hg _).setCell (p := ⟨g, p * 7 + 5, none⟩) hg _).setCell (p := ⟨g, p * 7 + 6, none⟩) hg _⟩
      case measure => simp [intOf]; omega
    · go_wp2
      go_returns
      exact ⟨rfl, hbel⟩

end Go.Proofs.Ytmnjjmgdeiejkaa
