/- The walk of the law ReqRaw. -/
import Derived.Test.YtmnjjmgdeiejkaaReqP
namespace Go.Proofs.Ytmnjjmgdeiejkaa
open Go.RowKit

theorem chunkO_len {l M : List Req} {id cu : Int} {d : Bool} (h : chunkO l id cu d = some M) : M.length = l.length := by
  unfold chunkO at h
  cases hp : placed l id with
  | none => rw [hp] at h; cases h
  | some r =>
    rw [hp] at h
    dsimp only at h
    split at h
    · obtain rfl := Option.some.inj h
      simp
    · cases h

theorem acceptO_len {l M : List Req} {t wt a : Int} (h : acceptO l t wt a = some M) : M.length = l.length + 1 := by
  unfold acceptO at h
  split at h
  · obtain rfl := Option.some.inj h
    simp
  · cases h

theorem getD_len {o : Option (List Req)} {n : Nat} (h : ∀ M, o = some M → M.length ≤ n) : (o.getD []).length ≤ n := by
  cases o with
  | none => simp
  | some M => exact h M rfl

set_option maxRecDepth 100000 in
set_option maxHeartbeats 8000000 in
theorem reqRaw_walk (w : World) (A : Option Addr) (n c : Nat) (l : List Req) (h : IsSl reqRep w (· < w.heap.size) A n l) (_ : n ≤ c) (_ : c ≤ maxLen) (o : Op14) (cs0 : Array Value) (ho : op14Rep.rel w (· < w.heap.size) o cs0.toList) (nn : Int) (_ : I64 nn) :
    Calls Try.prog 11 #[.slice A n c, .agg cs0, .int .i64 nn] w fun e w' => e = .returned (.bool true) ∧ Below w.heap.size w w' := by
  obtain ⟨hcs0, how⟩ := ho
  obtain rfl : cs0 = #[.int .i64 o.kind, .int .i64 o.table, .int .i64 o.weight, .int .i64 o.id, .int .i64 o.at_, .int .i64 o.cursor, .bool o.done] := by
    have : cs0.toList = o.cells := hcs0
    cases cs0
    simp at this
    rw [this]
    rfl
  clear hcs0
  obtain ⟨_, ow1, ow2, ow3, ow4, ow5⟩ := how
  obtain ⟨i0, hi, hz0, hz1, hz2⟩ := info_parts info_req
  have H := Lib.hid h
  have HL := Lib.hid h.len
  have hb0 : Below w.heap.size w (w.alloc (.cells #[.int .i64 o.kind, .int .i64 o.table, .int .i64 o.weight, .int .i64 o.id, .int .i64 o.at_, .int .i64 o.cursor, .bool o.done] 50)) := (Below.refl _ _).alloc (Nat.le_refl _) _
  clear h
  by_cases hbig : 200 < n
  · go_enter Try.func11, Try.ntmps11
    go_wp2_with (first | (go_at_call 39; (with_reducible refine (awake14_any _).mono ?_); rintro e w1 ⟨rfl, hb1⟩) | fail)
    go_ret
    exact ⟨rfl, hb0.trans (hb1.mono hb0.size)⟩
  · have hn : n ≤ 200 := by omega
    clear hbig
    have hb0' : Below (w.heap.size + 1) (w.alloc (.cells #[.int .i64 o.kind, .int .i64 o.table, .int .i64 o.weight, .int .i64 o.id, .int .i64 o.at_, .int .i64 o.cursor, .bool o.done] 50)) ((w.alloc (.cells #[.int .i64 o.kind, .int .i64 o.table, .int .i64 o.weight, .int .i64 o.id, .int .i64 o.at_, .int .i64 o.cursor, .bool o.done] 50)).alloc (.cells #[] 54)) := (Below.refl _ _).alloc (by simp) _
    go_enter Try.func11, Try.ntmps11
    go_wp2_with (first
      | (at_builtin; refine wpList_append_Own _ rfl _ _ 48 rfl (w.heap.size + 1) 54 i0 _ 56 Try.underlying48 hi hz0 hz1 hz2 rfl (R := reqRep) (S := fun _ => False) (l := []) (l' := l) (.slice (some ⟨w.heap.size + 1, 0, none⟩) 0 0) rfl (Own.nil _ _ _ (fun _ h => h.elim) _ _) A n c rfl ((H.out).srcF flat_req (hb0.trans (hb0'.mono (by omega)))) (by simp [maxLen]; omega) (by simp; omega) (by omega) (by simp) ?_; intro v1 w1 own1 gr1 at1; have bq1 := hb0'.grown gr1 (by simp) (by intro k hk; simp [rowOf] at hk); simp only [List.nil_append] at own1; obtain ⟨A1, c1, rfl, hc11, hc12, _⟩ := own1.isSlA; rw [← HL.out] at own1 ⊢; have OW1 := Lib.hid own1; have BQ1 := Lib.hid bq1; clear gr1 at1 own1 bq1)
      | fail)
    go_loopw [8] (fun i wr => ∃ (k : Nat) (l' : List Req), i = .int .i64 k ∧ k ≤ n ∧ l'.length = n ∧ Own reqRep wr (w.heap.size + 1) (fun _ => False) 54 (.slice A1 n c1) l' ∧ Below (w.heap.size + 1) (w.alloc (.cells #[.int .i64 o.kind, .int .i64 o.table, .int .i64 o.weight, .int .i64 o.id, .int .i64 o.at_, .int .i64 o.cursor, .bool o.done] 50)) wr) (fun i _ => n - (intOf i).toNat)
    case atStart => exact ⟨0, l, rfl, Nat.zero_le _, HL.out.symm, OW1.out, BQ1.out⟩
    case round =>
      obtain ⟨k, l', rfl, hk, hll, hown, hbel⟩ := hrel
      have HLL := Lib.hid hll
      have HO := Lib.hid hown
      by_cases hlt : k < n
      · have hkl : k < l'.length := by omega
        obtain ⟨g, cap, hv, hgB, hgl, _, _⟩ := hown.form1 (by rintro rfl; simp at hkl)
        injection hv with hA1 hnl hc1
        clear hnl
        subst hA1 hc1
        obtain ⟨x, hx⟩ : ∃ x, l'[k]? = some x := ⟨_, List.getElem?_eq_getElem hkl⟩
        have HX := Lib.hid hx
        obtain ⟨_, _, ⟨_, hxw⟩, _, _, _⟩ := hown.cellAt hx (j := 0) (by decide)
        obtain ⟨wx0, wx1, wx2, wx3, wx4, wx5⟩ := hxw
        have c0 : wr.cell? ⟨g, k * 7, none⟩ = some (.int .i64 x.id) := (own_req hown hx 0 (by omega)).1
        have z0 : wr.frozen? ⟨g, k * 7, none⟩ = false := (own_req hown hx 0 (by omega)).2
        have c1 : wr.cell? ⟨g, k * 7 + 1, none⟩ = some (.int .i64 x.table) := (own_req hown hx 1 (by omega)).1
        have z1 : wr.frozen? ⟨g, k * 7 + 1, none⟩ = false := (own_req hown hx 1 (by omega)).2
        have c2 : wr.cell? ⟨g, k * 7 + 2, none⟩ = some (.int .i64 x.weight) := (own_req hown hx 2 (by omega)).1
        have z2 : wr.frozen? ⟨g, k * 7 + 2, none⟩ = false := (own_req hown hx 2 (by omega)).2
        have c3 : wr.cell? ⟨g, k * 7 + 3, none⟩ = some (.int .i64 x.at_) := (own_req hown hx 3 (by omega)).1
        have z3 : wr.frozen? ⟨g, k * 7 + 3, none⟩ = false := (own_req hown hx 3 (by omega)).2
        have c4 : wr.cell? ⟨g, k * 7 + 4, none⟩ = some (.int .i64 x.cursor) := (own_req hown hx 4 (by omega)).1
        have z4 : wr.frozen? ⟨g, k * 7 + 4, none⟩ = false := (own_req hown hx 4 (by omega)).2
        have c5 : wr.cell? ⟨g, k * 7 + 5, none⟩ = some (.int .i64 x.chunks) := (own_req hown hx 5 (by omega)).1
        have z5 : wr.frozen? ⟨g, k * 7 + 5, none⟩ = false := (own_req hown hx 5 (by omega)).2
        have c6 : wr.cell? ⟨g, k * 7 + 6, none⟩ = some (.bool x.done) := (own_req hown hx 6 (by omega)).1
        have z6 : wr.frozen? ⟨g, k * 7 + 6, none⟩ = false := (own_req hown hx 6 (by omega)).2
        have hgw : w.heap.size + 1 ≤ g := hgB
        have m1 := modOf_range x.table 8 (by omega)
        have m2 := modOf_range x.weight 8 (by omega)
        have m4 := modOf_range x.cursor 50 (by omega)
        have m5 := modOf_range x.chunks 9 (by omega)
        have m6 := modOf_range nn 4 (by omega)
        have wn0 : I64 ((k : Int) + 1) := by unfold I64; omega
        have wn1 : I64 (modOf x.table 8) := by unfold I64; omega
        have wn2 : I64 (1 + modOf x.weight 8) := by unfold I64; omega
        have wn3 : I64 ((k : Int) + 1) := by unfold I64; omega
        have wn4 : I64 (modOf x.cursor 50) := by unfold I64; omega
        have wn5 : I64 (modOf x.chunks 9) := by unfold I64; omega
        clear hown hx hll
        cases hxd : x.done with
        | true =>
          rw [hxd] at c6
          go_wp2_with (first
            | (go_at_call 19; (with_reducible refine (mod_any x.table 8 _ (by omega) (by omega)).mono ?_); rintro e w' ⟨rfl, rfl⟩)
            | (go_at_call 19; (with_reducible refine (mod_any x.weight 8 _ (by omega) (by omega)).mono ?_); rintro e w' ⟨rfl, rfl⟩)
            | (go_at_call 21; (with_reducible refine (big_any x.cursor 50 _ (by omega) (by omega)).mono ?_); rintro e w' ⟨rfl, rfl⟩)
            | (go_at_call 19; (with_reducible refine (mod_any x.chunks 9 _ (by omega) (by omega)).mono ?_); rintro e w' ⟨rfl, rfl⟩)
            | (go_at_call 19; (with_reducible refine (mod_any nn 4 _ (by omega) (by omega)).mono ?_); rintro e w' ⟨rfl, rfl⟩)
            | fail)
          go_roundw
          case rel =>
            have o0 := own_req_set (y := ⟨(k : Int) + 1, x.table, x.weight, x.at_, x.cursor, x.chunks, x.done⟩) (j := 0) (u := .int .i64 ((k : Int) + 1)) HO.out HX.out (by omega) rfl ⟨wn0, wx1, wx2, wx3, wx4, wx5⟩
            have e0 : (l'.set k ⟨(k : Int) + 1, x.table, x.weight, x.at_, x.cursor, x.chunks, x.done⟩)[k]? = some ⟨(k : Int) + 1, x.table, x.weight, x.at_, x.cursor, x.chunks, x.done⟩ := List.getElem?_set_self hkl
            have o1 := own_req_set (y := ⟨(k : Int) + 1, modOf x.table 8, x.weight, x.at_, x.cursor, x.chunks, x.done⟩) (j := 1) (u := .int .i64 (modOf x.table 8)) o0 e0 (by omega) rfl ⟨wn0, wn1, wx2, wx3, wx4, wx5⟩
            rw [List.set_set] at o1
            have e1 : (l'.set k ⟨(k : Int) + 1, modOf x.table 8, x.weight, x.at_, x.cursor, x.chunks, x.done⟩)[k]? = some ⟨(k : Int) + 1, modOf x.table 8, x.weight, x.at_, x.cursor, x.chunks, x.done⟩ := List.getElem?_set_self hkl
            have o2 := own_req_set (y := ⟨(k : Int) + 1, modOf x.table 8, 1 + modOf x.weight 8, x.at_, x.cursor, x.chunks, x.done⟩) (j := 2) (u := .int .i64 (1 + modOf x.weight 8)) o1 e1 (by omega) rfl ⟨wn0, wn1, wn2, wx3, wx4, wx5⟩
            rw [List.set_set] at o2
            have e2 : (l'.set k ⟨(k : Int) + 1, modOf x.table 8, 1 + modOf x.weight 8, x.at_, x.cursor, x.chunks, x.done⟩)[k]? = some ⟨(k : Int) + 1, modOf x.table 8, 1 + modOf x.weight 8, x.at_, x.cursor, x.chunks, x.done⟩ := List.getElem?_set_self hkl
            have o3 := own_req_set (y := ⟨(k : Int) + 1, modOf x.table 8, 1 + modOf x.weight 8, (k : Int) + 1, x.cursor, x.chunks, x.done⟩) (j := 3) (u := .int .i64 ((k : Int) + 1)) o2 e2 (by omega) rfl ⟨wn0, wn1, wn2, wn3, wx4, wx5⟩
            rw [List.set_set] at o3
            have e3 : (l'.set k ⟨(k : Int) + 1, modOf x.table 8, 1 + modOf x.weight 8, (k : Int) + 1, x.cursor, x.chunks, x.done⟩)[k]? = some ⟨(k : Int) + 1, modOf x.table 8, 1 + modOf x.weight 8, (k : Int) + 1, x.cursor, x.chunks, x.done⟩ := List.getElem?_set_self hkl
            have o4 := own_req_set (y := ⟨(k : Int) + 1, modOf x.table 8, 1 + modOf x.weight 8, (k : Int) + 1, modOf x.cursor 50, x.chunks, x.done⟩) (j := 4) (u := .int .i64 (modOf x.cursor 50)) o3 e3 (by omega) rfl ⟨wn0, wn1, wn2, wn3, wn4, wx5⟩
            rw [List.set_set] at o4
            have e4 : (l'.set k ⟨(k : Int) + 1, modOf x.table 8, 1 + modOf x.weight 8, (k : Int) + 1, modOf x.cursor 50, x.chunks, x.done⟩)[k]? = some ⟨(k : Int) + 1, modOf x.table 8, 1 + modOf x.weight 8, (k : Int) + 1, modOf x.cursor 50, x.chunks, x.done⟩ := List.getElem?_set_self hkl
            have o5 := own_req_set (y := ⟨(k : Int) + 1, modOf x.table 8, 1 + modOf x.weight 8, (k : Int) + 1, modOf x.cursor 50, modOf x.chunks 9, x.done⟩) (j := 5) (u := .int .i64 (modOf x.chunks 9)) o4 e4 (by omega) rfl ⟨wn0, wn1, wn2, wn3, wn4, wn5⟩
            rw [List.set_set] at o5
            have e5 : (l'.set k ⟨(k : Int) + 1, modOf x.table 8, 1 + modOf x.weight 8, (k : Int) + 1, modOf x.cursor 50, modOf x.chunks 9, x.done⟩)[k]? = some ⟨(k : Int) + 1, modOf x.table 8, 1 + modOf x.weight 8, (k : Int) + 1, modOf x.cursor 50, modOf x.chunks 9, x.done⟩ := List.getElem?_set_self hkl
            have o6 := own_req_set (y := ⟨(k : Int) + 1, modOf x.table 8, 1 + modOf x.weight 8, (k : Int) + 1, modOf x.cursor 50, modOf x.chunks 9, true⟩) (j := 6) (u := .bool (true)) o5 e5 (by omega) rfl ⟨wn0, wn1, wn2, wn3, wn4, wn5⟩
            rw [List.set_set] at o6
            have e6 : (l'.set k ⟨(k : Int) + 1, modOf x.table 8, 1 + modOf x.weight 8, (k : Int) + 1, modOf x.cursor 50, modOf x.chunks 9, true⟩)[k]? = some ⟨(k : Int) + 1, modOf x.table 8, 1 + modOf x.weight 8, (k : Int) + 1, modOf x.cursor 50, modOf x.chunks 9, true⟩ := List.getElem?_set_self hkl
            exact ⟨k + 1, _, by go_num, by omega, by rw [List.length_set]; exact HLL.out, o6, (((((((hbel.setCell hgw _).setCell hgw _).setCell hgw _).setCell hgw _).setCell hgw _).setCell hgw _).setCell hgw _)⟩
          case measure => simp [intOf]; omega
        | false =>
          rw [hxd] at c6
          go_wp2_with (first
            | (go_at_call 19; (with_reducible refine (mod_any x.table 8 _ (by omega) (by omega)).mono ?_); rintro e w' ⟨rfl, rfl⟩)
            | (go_at_call 19; (with_reducible refine (mod_any x.weight 8 _ (by omega) (by omega)).mono ?_); rintro e w' ⟨rfl, rfl⟩)
            | (go_at_call 21; (with_reducible refine (big_any x.cursor 50 _ (by omega) (by omega)).mono ?_); rintro e w' ⟨rfl, rfl⟩)
            | (go_at_call 19; (with_reducible refine (mod_any x.chunks 9 _ (by omega) (by omega)).mono ?_); rintro e w' ⟨rfl, rfl⟩)
            | (go_at_call 19; (with_reducible refine (mod_any nn 4 _ (by omega) (by omega)).mono ?_); rintro e w' ⟨rfl, rfl⟩)
            | fail)
          go_roundw
          case rel =>
            have o0 := own_req_set (y := ⟨(k : Int) + 1, x.table, x.weight, x.at_, x.cursor, x.chunks, x.done⟩) (j := 0) (u := .int .i64 ((k : Int) + 1)) HO.out HX.out (by omega) rfl ⟨wn0, wx1, wx2, wx3, wx4, wx5⟩
            have e0 : (l'.set k ⟨(k : Int) + 1, x.table, x.weight, x.at_, x.cursor, x.chunks, x.done⟩)[k]? = some ⟨(k : Int) + 1, x.table, x.weight, x.at_, x.cursor, x.chunks, x.done⟩ := List.getElem?_set_self hkl
            have o1 := own_req_set (y := ⟨(k : Int) + 1, modOf x.table 8, x.weight, x.at_, x.cursor, x.chunks, x.done⟩) (j := 1) (u := .int .i64 (modOf x.table 8)) o0 e0 (by omega) rfl ⟨wn0, wn1, wx2, wx3, wx4, wx5⟩
            rw [List.set_set] at o1
            have e1 : (l'.set k ⟨(k : Int) + 1, modOf x.table 8, x.weight, x.at_, x.cursor, x.chunks, x.done⟩)[k]? = some ⟨(k : Int) + 1, modOf x.table 8, x.weight, x.at_, x.cursor, x.chunks, x.done⟩ := List.getElem?_set_self hkl
            have o2 := own_req_set (y := ⟨(k : Int) + 1, modOf x.table 8, 1 + modOf x.weight 8, x.at_, x.cursor, x.chunks, x.done⟩) (j := 2) (u := .int .i64 (1 + modOf x.weight 8)) o1 e1 (by omega) rfl ⟨wn0, wn1, wn2, wx3, wx4, wx5⟩
            rw [List.set_set] at o2
            have e2 : (l'.set k ⟨(k : Int) + 1, modOf x.table 8, 1 + modOf x.weight 8, x.at_, x.cursor, x.chunks, x.done⟩)[k]? = some ⟨(k : Int) + 1, modOf x.table 8, 1 + modOf x.weight 8, x.at_, x.cursor, x.chunks, x.done⟩ := List.getElem?_set_self hkl
            have o3 := own_req_set (y := ⟨(k : Int) + 1, modOf x.table 8, 1 + modOf x.weight 8, (k : Int) + 1, x.cursor, x.chunks, x.done⟩) (j := 3) (u := .int .i64 ((k : Int) + 1)) o2 e2 (by omega) rfl ⟨wn0, wn1, wn2, wn3, wx4, wx5⟩
            rw [List.set_set] at o3
            have e3 : (l'.set k ⟨(k : Int) + 1, modOf x.table 8, 1 + modOf x.weight 8, (k : Int) + 1, x.cursor, x.chunks, x.done⟩)[k]? = some ⟨(k : Int) + 1, modOf x.table 8, 1 + modOf x.weight 8, (k : Int) + 1, x.cursor, x.chunks, x.done⟩ := List.getElem?_set_self hkl
            have o4 := own_req_set (y := ⟨(k : Int) + 1, modOf x.table 8, 1 + modOf x.weight 8, (k : Int) + 1, modOf x.cursor 50, x.chunks, x.done⟩) (j := 4) (u := .int .i64 (modOf x.cursor 50)) o3 e3 (by omega) rfl ⟨wn0, wn1, wn2, wn3, wn4, wx5⟩
            rw [List.set_set] at o4
            have e4 : (l'.set k ⟨(k : Int) + 1, modOf x.table 8, 1 + modOf x.weight 8, (k : Int) + 1, modOf x.cursor 50, x.chunks, x.done⟩)[k]? = some ⟨(k : Int) + 1, modOf x.table 8, 1 + modOf x.weight 8, (k : Int) + 1, modOf x.cursor 50, x.chunks, x.done⟩ := List.getElem?_set_self hkl
            have o5 := own_req_set (y := ⟨(k : Int) + 1, modOf x.table 8, 1 + modOf x.weight 8, (k : Int) + 1, modOf x.cursor 50, modOf x.chunks 9, x.done⟩) (j := 5) (u := .int .i64 (modOf x.chunks 9)) o4 e4 (by omega) rfl ⟨wn0, wn1, wn2, wn3, wn4, wn5⟩
            rw [List.set_set] at o5
            have e5 : (l'.set k ⟨(k : Int) + 1, modOf x.table 8, 1 + modOf x.weight 8, (k : Int) + 1, modOf x.cursor 50, modOf x.chunks 9, x.done⟩)[k]? = some ⟨(k : Int) + 1, modOf x.table 8, 1 + modOf x.weight 8, (k : Int) + 1, modOf x.cursor 50, modOf x.chunks 9, x.done⟩ := List.getElem?_set_self hkl
            have o6 := own_req_set (y := ⟨(k : Int) + 1, modOf x.table 8, 1 + modOf x.weight 8, (k : Int) + 1, modOf x.cursor 50, modOf x.chunks 9, (k : Int) % 3 != modOf nn 4⟩) (j := 6) (u := .bool ((k : Int) % 3 != modOf nn 4)) o5 e5 (by omega) rfl ⟨wn0, wn1, wn2, wn3, wn4, wn5⟩
            rw [List.set_set] at o6
            have e6 : (l'.set k ⟨(k : Int) + 1, modOf x.table 8, 1 + modOf x.weight 8, (k : Int) + 1, modOf x.cursor 50, modOf x.chunks 9, (k : Int) % 3 != modOf nn 4⟩)[k]? = some ⟨(k : Int) + 1, modOf x.table 8, 1 + modOf x.weight 8, (k : Int) + 1, modOf x.cursor 50, modOf x.chunks 9, (k : Int) % 3 != modOf nn 4⟩ := List.getElem?_set_self hkl
            exact ⟨k + 1, _, by go_num, by omega, by rw [List.length_set]; exact HLL.out, o6, (((((((hbel.setCell hgw _).setCell hgw _).setCell hgw _).setCell hgw _).setCell hgw _).setCell hgw _).setCell hgw _)⟩
          case measure => simp [intOf]; omega
      · obtain ⟨A1', c1', hv, _, _, sl'⟩ := hown.isSlA
        rw [hll] at hv sl'
        injection hv with hA1 _ hc1
        subst hA1 hc1
        have SLm := Lib.hid sl'
        have hbw := hb0.trans (hbel.mono (by omega))
        have SLl := Lib.hid ((H.out.below hbw).more hbw.size)
        have HBW := Lib.hid hbw
        obtain ⟨wo, rfl⟩ : ∃ wo : World, wo = wr := ⟨_, rfl⟩
        have hoc : ∀ (j : Nat) (u : Value), o.cells[j]? = some u → wo.cell? ⟨w.heap.size, j, none⟩ = some u := fun j u hu => (hbel.cell (p := ⟨w.heap.size, j, none⟩) (by simp)).trans ((World.cell?_alloc_at _ _ _ _ rfl).trans (by rw [← hu]; simp [Op14.cells]))
        have HOC0 := Lib.hid hoc
        have hwo : w.heap.size < wo.heap.size := by have := hbel.size; simp at this; omega
        have HLL2 := Lib.hid hll
        clear hown hll sl' hbw hoc hbel
        go_wp2_with fail
        obtain ⟨wL, hwL⟩ : ∃ wL, wL = wo.alloc (.cells #[.slice A n c, .slice A1 n c1] 48) := ⟨_, rfl⟩
        have g0 : wL.cell? ⟨wo.heap.size, 0, none⟩ = some (.slice A n c) := by rw [hwL]; exact World.cell?_alloc_at _ _ _ _ rfl
        have g1 : wL.cell? ⟨wo.heap.size, 1, none⟩ = some (.slice A1 n c1) := by rw [hwL]; exact World.cell?_alloc_at _ _ _ _ rfl
        have bL : Below wo.heap.size wo wL := by rw [hwL]; exact (Below.refl _ _).alloc (Nat.le_refl _) _
        have hsL : wo.heap.size < wL.heap.size := by rw [hwL]; simp
        have HOC := Lib.hid (show ∀ w' : World, Below wL.heap.size wL w' → ∀ (j : Nat) (u : Value), o.cells[j]? = some u → w'.cell? ⟨w.heap.size, j, none⟩ = some u from fun w' hb j u hu => ((hb.cell (p := ⟨w.heap.size, j, none⟩) (Nat.lt_trans hwo hsL)).trans (bL.cell (p := ⟨w.heap.size, j, none⟩) hwo)).trans (HOC0.out j u hu))
        have SLl2 := Lib.hid ((SLl.out.below bL).more bL.size)
        have SLm2 := Lib.hid ((SLm.out.below bL).more bL.size)
        have BWL := Lib.hid (HBW.out.trans (bL.mono HBW.out.size))
        rw [← hwL]
        clear hwL bL
        go_loopw [105] (fun i wr => ∃ q : Nat, i = .int .i64 q ∧ q ≤ 2 ∧ Below wL.heap.size wL wr) (fun i _ => 2 - (intOf i).toNat)
        case atStart => exact ⟨0, rfl, by omega, Below.refl _ _⟩
        case round =>
          obtain ⟨q, rfl, hq, hbelL⟩ := hrel
          by_cases hq2 : q < 2
          · obtain ⟨Ax, cx, lx, hgx, hsx⟩ : ∃ Ax cx lx, wr.cell? ⟨wo.heap.size, q, none⟩ = some (.slice Ax n cx) ∧ IsSl reqRep wr (· < wr.heap.size) Ax n lx := by
              have h01 : q = 0 ∨ q = 1 := by omega
              rcases h01 with rfl | rfl
              · exact ⟨A, c, l, (hbelL.cell (p := ⟨wo.heap.size, 0, none⟩) hsL).trans g0, (SLl2.out.below hbelL).more hbelL.size⟩
              · exact ⟨A1, c1, l', (hbelL.cell (p := ⟨wo.heap.size, 1, none⟩) hsL).trans g1, (SLm2.out.below hbelL).more hbelL.size⟩
            have SX0 := Lib.hid hsx
            have hlx : lx.length = n := hsx.len.symm
            obtain ⟨RA, hRAe⟩ : ∃ RA, RA = acceptO lx o.table o.weight o.at_ := ⟨_, rfl⟩
            obtain ⟨RC, hRCe⟩ : ∃ RC, RC = chunkO lx o.id o.cursor o.done := ⟨_, rfl⟩
            have hRA : (RA.getD []).length ≤ 281474976710656 := getD_len fun M hM => by rw [hRAe] at hM; have := acceptO_len hM; omega
            have hRC : (RC.getD []).length ≤ 281474976710656 := getD_len fun M hM => by rw [hRCe] at hM; have := chunkO_len hM; omega
            have hRO : (openL lx).length ≤ 281474976710656 := by have := openL_len lx lx.length; rw [List.take_length] at this; omega
            have HRA := Lib.hid hRAe
            have HRC := Lib.hid hRCe
            have owr0 : wr.cell? ⟨w.heap.size, 0, none⟩ = some (.int .i64 o.kind) := HOC.out wr hbelL 0 _ rfl
            have owr1 : wr.cell? ⟨w.heap.size, 1, none⟩ = some (.int .i64 o.table) := HOC.out wr hbelL 1 _ rfl
            have owr2 : wr.cell? ⟨w.heap.size, 2, none⟩ = some (.int .i64 o.weight) := HOC.out wr hbelL 2 _ rfl
            have owr3 : wr.cell? ⟨w.heap.size, 3, none⟩ = some (.int .i64 o.id) := HOC.out wr hbelL 3 _ rfl
            have owr4 : wr.cell? ⟨w.heap.size, 4, none⟩ = some (.int .i64 o.at_) := HOC.out wr hbelL 4 _ rfl
            have owr5 : wr.cell? ⟨w.heap.size, 5, none⟩ = some (.int .i64 o.cursor) := HOC.out wr hbelL 5 _ rfl
            have owr6 : wr.cell? ⟨w.heap.size, 6, none⟩ = some (.bool o.done) := HOC.out wr hbelL 6 _ rfl
            clear hsx hlx hRAe hRCe g0 g1
            go_wp2_with (first
              | (go_at_call 30; (with_reducible refine (accept_any Ax n cx lx o.table o.weight o.at_ _ SX0.out (by omega) ow1 ow2 ow4).mono ?_); rintro e w2 ⟨v2, rfl, own2, bel2⟩; rw [← HRA.out] at own2 ⊢; obtain ⟨A2, c2, rfl, _, _, sa⟩ := own2.isSlA; have SA2 := Lib.hid sa; have hs2 := bel2.size; have SX2 := Lib.hid ((SX0.out.below bel2).more hs2); have bw2 : Below wL.heap.size wL w2 := hbelL.trans (bel2.mono hbelL.size); have ow20 : w2.cell? ⟨w.heap.size, 0, none⟩ = some (.int .i64 o.kind) := HOC.out w2 bw2 0 _ rfl; have ow21 : w2.cell? ⟨w.heap.size, 1, none⟩ = some (.int .i64 o.table) := HOC.out w2 bw2 1 _ rfl; have ow22 : w2.cell? ⟨w.heap.size, 2, none⟩ = some (.int .i64 o.weight) := HOC.out w2 bw2 2 _ rfl; have ow23 : w2.cell? ⟨w.heap.size, 3, none⟩ = some (.int .i64 o.id) := HOC.out w2 bw2 3 _ rfl; have ow24 : w2.cell? ⟨w.heap.size, 4, none⟩ = some (.int .i64 o.at_) := HOC.out w2 bw2 4 _ rfl; have ow25 : w2.cell? ⟨w.heap.size, 5, none⟩ = some (.int .i64 o.cursor) := HOC.out w2 bw2 5 _ rfl; have ow26 : w2.cell? ⟨w.heap.size, 6, none⟩ = some (.bool o.done) := HOC.out w2 bw2 6 _ rfl; clear own2 sa bel2)
              | (go_at_call 40; (with_reducible refine (refaccept_any Ax n cx lx o.table o.weight o.at_ _ SX2.out (by omega) ow1 ow2 ow4).mono ?_); rintro e w3 ⟨v3, rfl, own3, bel3⟩; rw [← HRA.out] at own3 ⊢; obtain ⟨A3, c3, rfl, _, _, sb⟩ := own3.isSlA; have SB3 := Lib.hid sb; have hs3 := bel3.size; have SX3 := Lib.hid ((SX2.out.below bel3).more hs3); have SA3 := Lib.hid ((SA2.out.below bel3).more hs3); have bw3 : Below wL.heap.size wL w3 := bw2.trans (bel3.mono bw2.size); have ow30 : w3.cell? ⟨w.heap.size, 0, none⟩ = some (.int .i64 o.kind) := HOC.out w3 bw3 0 _ rfl; have ow31 : w3.cell? ⟨w.heap.size, 1, none⟩ = some (.int .i64 o.table) := HOC.out w3 bw3 1 _ rfl; have ow32 : w3.cell? ⟨w.heap.size, 2, none⟩ = some (.int .i64 o.weight) := HOC.out w3 bw3 2 _ rfl; have ow33 : w3.cell? ⟨w.heap.size, 3, none⟩ = some (.int .i64 o.id) := HOC.out w3 bw3 3 _ rfl; have ow34 : w3.cell? ⟨w.heap.size, 4, none⟩ = some (.int .i64 o.at_) := HOC.out w3 bw3 4 _ rfl; have ow35 : w3.cell? ⟨w.heap.size, 5, none⟩ = some (.int .i64 o.cursor) := HOC.out w3 bw3 5 _ rfl; have ow36 : w3.cell? ⟨w.heap.size, 6, none⟩ = some (.bool o.done) := HOC.out w3 bw3 6 _ rfl; clear own3 sb bel3)
              | (go_at_call 31; (with_reducible refine (chunk_any Ax n cx lx o.id o.cursor o.done _ SX3.out (by omega) ow3 ow5).mono ?_); rintro e w4 ⟨v4, rfl, own4, bel4⟩; rw [← HRC.out] at own4 ⊢; obtain ⟨A4, c4, rfl, _, _, sc⟩ := own4.isSlA; have SC4 := Lib.hid sc; have hs4 := bel4.size; have SX4 := Lib.hid ((SX3.out.below bel4).more hs4); have SA4 := Lib.hid ((SA3.out.below bel4).more hs4); have SB4 := Lib.hid ((SB3.out.below bel4).more hs4); have bw4 : Below wL.heap.size wL w4 := bw3.trans (bel4.mono bw3.size); have ow40 : w4.cell? ⟨w.heap.size, 0, none⟩ = some (.int .i64 o.kind) := HOC.out w4 bw4 0 _ rfl; have ow41 : w4.cell? ⟨w.heap.size, 1, none⟩ = some (.int .i64 o.table) := HOC.out w4 bw4 1 _ rfl; have ow42 : w4.cell? ⟨w.heap.size, 2, none⟩ = some (.int .i64 o.weight) := HOC.out w4 bw4 2 _ rfl; have ow43 : w4.cell? ⟨w.heap.size, 3, none⟩ = some (.int .i64 o.id) := HOC.out w4 bw4 3 _ rfl; have ow44 : w4.cell? ⟨w.heap.size, 4, none⟩ = some (.int .i64 o.at_) := HOC.out w4 bw4 4 _ rfl; have ow45 : w4.cell? ⟨w.heap.size, 5, none⟩ = some (.int .i64 o.cursor) := HOC.out w4 bw4 5 _ rfl; have ow46 : w4.cell? ⟨w.heap.size, 6, none⟩ = some (.bool o.done) := HOC.out w4 bw4 6 _ rfl; clear own4 sc bel4)
              | (go_at_call 41; (with_reducible refine (refchunk_any Ax n cx lx o.id o.cursor o.done _ SX4.out (by omega) ow3 ow5).mono ?_); rintro e w5 ⟨v5, rfl, own5, bel5⟩; rw [← HRC.out] at own5 ⊢; obtain ⟨A5, c5, rfl, _, _, sd⟩ := own5.isSlA; have SD5 := Lib.hid sd; have hs5 := bel5.size; have SX5 := Lib.hid ((SX4.out.below bel5).more hs5); have SA5 := Lib.hid ((SA4.out.below bel5).more hs5); have SB5 := Lib.hid ((SB4.out.below bel5).more hs5); have SC5 := Lib.hid ((SC4.out.below bel5).more hs5); have bw5 : Below wL.heap.size wL w5 := bw4.trans (bel5.mono bw4.size); clear own5 sd bel5)
              | (go_at_call 38; (with_reducible refine (May_any Ax n cx lx _ SX5.out (by omega)).mono ?_); rintro e w6 ⟨rfl, bel6⟩; have hs6 := bel6.size; have SX6 := Lib.hid ((SX5.out.below bel6).more hs6); have SA6 := Lib.hid ((SA5.out.below bel6).more hs6); have SB6 := Lib.hid ((SB5.out.below bel6).more hs6); have SC6 := Lib.hid ((SC5.out.below bel6).more hs6); have SD6 := Lib.hid ((SD5.out.below bel6).more hs6); have bw6 : Below wL.heap.size wL w6 := bw5.trans (bel6.mono bw5.size); clear bel6)
              | (go_at_call 42; (with_reducible refine (refmay_any Ax n cx lx _ SX6.out (by omega)).mono ?_); rintro e w7 ⟨rfl, bel7⟩; have hs7 := bel7.size; have SX7 := Lib.hid ((SX6.out.below bel7).more hs7); have SA7 := Lib.hid ((SA6.out.below bel7).more hs7); have SB7 := Lib.hid ((SB6.out.below bel7).more hs7); have SC7 := Lib.hid ((SC6.out.below bel7).more hs7); have SD7 := Lib.hid ((SD6.out.below bel7).more hs7); have bw7 : Below wL.heap.size wL w7 := bw6.trans (bel7.mono bw6.size); clear bel7)
              | (go_at_call 33; (with_reducible refine (plain_req _ _ _ _ _ _ (RA.getD []) _ SA7.out SB7.out hRA).mono ?_); rintro e w8 ⟨rfl, bel8⟩; have hs8 := bel8.size; have SX8 := Lib.hid ((SX7.out.below bel8).more hs8); have SC8 := Lib.hid ((SC7.out.below bel8).more hs8); have SD8 := Lib.hid ((SD7.out.below bel8).more hs8); have bw8 : Below wL.heap.size wL w8 := bw7.trans (bel8.mono bw7.size); clear bel8)
              | (go_at_call 33; (with_reducible refine (plain_req _ _ _ _ _ _ (RC.getD []) _ SC8.out SD8.out hRC).mono ?_); rintro e w9 ⟨rfl, bel9⟩; have hs9 := bel9.size; have SX9 := Lib.hid ((SX8.out.below bel9).more hs9); have bw9 : Below wL.heap.size wL w9 := bw8.trans (bel9.mono bw8.size); clear bel9)
              | (go_at_call 35; (with_reducible refine (open_any Ax n cx lx _ SX9.out (by omega)).mono ?_); rintro e w10 ⟨v10, rfl, own10, bel10⟩; obtain ⟨A10, c10, rfl, _, _, sp⟩ := own10.isSlA; have SP10 := Lib.hid sp; have hs10 := bel10.size; have SX10 := Lib.hid ((SX9.out.below bel10).more hs10); have bw10 : Below wL.heap.size wL w10 := bw9.trans (bel10.mono bw9.size); clear own10 sp bel10)
              | (go_at_call 36; (with_reducible refine (refopen_any Ax n cx lx _ SX10.out (by omega)).mono ?_); rintro e w11 ⟨v11, rfl, own11, bel11⟩; obtain ⟨A11, c11, rfl, _, _, sq⟩ := own11.isSlA; have SQ11 := Lib.hid sq; have hs11 := bel11.size; have SX11 := Lib.hid ((SX10.out.below bel11).more hs11); have SP11 := Lib.hid ((SP10.out.below bel11).more hs11); have bw11 : Below wL.heap.size wL w11 := bw10.trans (bel11.mono bw10.size); clear own11 sq bel11)
              | (go_at_call 33; (with_reducible refine (plain_req _ _ _ _ _ _ (openL lx) _ SP11.out SQ11.out hRO).mono ?_); rintro e w12 ⟨rfl, bel12⟩; have bw12 : Below wL.heap.size wL w12 := bw11.trans (bel12.mono bw11.size); clear bel12)
              | fail)
            go_roundw
            case rel => exact ⟨q + 1, by go_num, by omega, bw12⟩
            case measure => simp [intOf]; omega
          · obtain rfl : q = 2 := by omega
            go_wp2_with (first
              | (go_at_call 39; (with_reducible refine (awake14_any _).mono ?_); rintro e w9 ⟨rfl, bel9⟩)
              | fail)
            go_ret
            exact ⟨rfl, BWL.out.trans ((hbelL.trans (bel9.mono hbelL.size)).mono BWL.out.size)⟩
end Go.Proofs.Ytmnjjmgdeiejkaa
