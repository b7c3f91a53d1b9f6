/- Contracts: req.one, req.list.may, req.May. -/
import Derived.Test.YtmnjjmgdeiejkaaReqL
import Derived.BigGuardPart
namespace Go.Proofs.Ytmnjjmgdeiejkaa
open Go.RowKit

theorem ret_bool {a b : Bool} (h : a = b) : Ending.returned (.bool a) = .returned (.bool b) := by rw [h]

set_option maxHeartbeats 1000000 in
theorem one_any (r : Req) (ahead : Int) (w : World) :
    Calls Try.prog 49 #[.agg #[.int .i64 r.id, .int .i64 r.table, .int .i64 r.weight, .int .i64 r.at_, .int .i64 r.cursor, .int .i64 r.chunks, .bool r.done], .int .i64 ahead] w fun e w' => e = .returned (.bool (oneB r ahead)) ∧ Below w.heap.size w w' := by
  go_enter Try.func49, Try.ntmps49
  go_wp2
  all_goals
    go_ret
    refine ⟨ret_bool ?_, (Below.refl _ _).alloc (Nat.le_refl _) _⟩
    unfold oneB
    rw [Bool.eq_iff_iff]
    simp
    omega

/-- What the array of open tables holds. -/
def OpenCells (w : World) (g : Nat) (pre : List Req) : Prop := ∀ t : Nat, t < 8 → w.cell? ⟨g, t, none⟩ = some (.bool (openAt pre t)) ∧ w.frozen? ⟨g, t, none⟩ = false

theorem OpenCells.keep {w w' : World} {g : Nat} {pre : List Req} (h : OpenCells w g pre) (hb : Below (g + 1) w w') : OpenCells w' g pre := fun t ht =>
  ⟨(hb.cell (p := ⟨g, t, none⟩) (by simp)).trans (h t ht).1, (hb.frozen (p := ⟨g, t, none⟩) (by simp)).trans (h t ht).2⟩

theorem OpenCells.step {w : World} {g : Nat} {pre : List Req} {x : Req} {t : Nat} (h : OpenCells w g pre) (ht : x.table = (t : Int)) (_h8 : t < 8) : OpenCells (w.setCell ⟨g, t, none⟩ (.bool (!x.done))) g (pre ++ [x]) := by
  intro u hu
  constructor
  · rw [openAt_snoc]
    by_cases e : u = t
    · subst e
      rw [if_pos ht]
      exact World.cell?_setCell_same w _ _ (h u hu).1
    · rw [if_neg (by omega), World.cell?_setCell_other _ _ _ _ (by intro e2; injection e2 with _ e3; exact e e3.symm)]
      exact (h u hu).1
  · have := (h u hu).2
    simpa using this

set_option maxHeartbeats 1000000 in
theorem may_any (A : Option Addr) (n c : Nat) (l : List Req) (w : World) (h : IsSl reqRep w (· < w.heap.size) A n l) (hn : n ≤ 1000000) :
    Calls Try.prog 48 #[.slice A n c] w fun e w' => e = .returned (.bool (mayB l)) ∧ Below w.heap.size w w' := by
  have HL := Lib.hid h.len
  go_enter Try.func48, Try.ntmps48
  go_wp2
  go_loopw [2, 4, 5, 6, 9] (fun _ ah _ _ i wr => ∃ k : Nat, k ≤ n ∧ i = .int .i64 k ∧ ah = .int .i64 (aheadOf (l.take k)) ∧ OpenCells wr w.heap.size (l.take k) ∧ okFrom [] (l.take k) = true ∧ Below w.heap.size w wr ∧ w.heap.size + 1 ≤ wr.heap.size) (fun _ _ _ _ i _ => n - (intOf i).toNat)
  case atStart =>
    refine ⟨0, Nat.zero_le _, rfl, rfl, ?_, rfl, (Below.refl _ _).alloc (Nat.le_refl _) _, by simp⟩
    intro t ht
    refine ⟨?_, by simp⟩
    rw [World.cell?_alloc_at _ _ _ _ rfl]
    match t, ht with
    | 0, _ | 1, _ | 2, _ | 3, _ | 4, _ | 5, _ | 6, _ | 7, _ => rfl
  case round =>
    obtain ⟨k, hk, rfl, rfl, hop, hok, hbel, hsz⟩ := hrel
    have HOK := Lib.hid hok
    have HOP := Lib.hid hop
    clear hok hop
    by_cases hlt : k < n
    · obtain ⟨b, off, x, cs, rfl, hbS, hx, ⟨rfl, hwf⟩, hc⟩ := h.at_ hlt
      have hcc : ∀ (j : Nat) (u : Value), x.cells[j]? = some u → wr.cell? ⟨b, off + k * 7 + j, none⟩ = some u := fun j u hu => (hbel.cell (p := ⟨b, off + k * 7 + j, none⟩) hbS).trans (hc j u hu)
      have c0 : wr.cell? ⟨b, off + k * 7, none⟩ = some (.int .i64 x.id) := hcc 0 _ rfl
      have c1 : wr.cell? ⟨b, off + k * 7 + 1, none⟩ = some (.int .i64 x.table) := hcc 1 _ rfl
      have c2 : wr.cell? ⟨b, off + k * 7 + 2, none⟩ = some (.int .i64 x.weight) := hcc 2 _ rfl
      have c3 : wr.cell? ⟨b, off + k * 7 + 3, none⟩ = some (.int .i64 x.at_) := hcc 3 _ rfl
      have c4 : wr.cell? ⟨b, off + k * 7 + 4, none⟩ = some (.int .i64 x.cursor) := hcc 4 _ rfl
      have c5 : wr.cell? ⟨b, off + k * 7 + 5, none⟩ = some (.int .i64 x.chunks) := hcc 5 _ rfl
      have c6 : wr.cell? ⟨b, off + k * 7 + 6, none⟩ = some (.bool x.done) := hcc 6 _ rfl
      have HT := Lib.hid (okFrom_take hx)
      have HX := Lib.hid hx
      have hkl : (l.take k).length = k := by rw [List.length_take, ← HL.out]; omega
      have HKL := Lib.hid hkl
      obtain ⟨pre, hpre⟩ : ∃ pre, pre = l.take k := ⟨_, rfl⟩
      have HPRE := Lib.hid hpre
      rw [← hpre] at HT HOK HOP HKL ⊢
      clear hc hcc h hx hkl hpre
      by_cases hid : x.id = (k : Int) + 1
      · have hidb : (x.id != (k : Int) + 1) = false := by simp [hid]
        have HID := Lib.hid hid
        clear hid
        obtain ⟨ob, hob⟩ : ∃ ob, ob = oneB x (aheadOf pre) := ⟨_, rfl⟩
        have HOB := Lib.hid hob
        have hW : Below w.heap.size w (wr.alloc (.cells #[.int .i64 x.id, .int .i64 x.table, .int .i64 x.weight, .int .i64 x.at_, .int .i64 x.cursor, .int .i64 x.chunks, .bool x.done] 54)) := hbel.alloc (by omega) _
        have HST := Lib.hid (show stepOk pre x = (oneB x (aheadOf pre) && !openAt pre x.table) by unfold stepOk; rw [HKL.out]; simp [HID.out])
        have HOP2 := Lib.hid ((HOP.out).keep ((Below.refl (w.heap.size + 1) wr).alloc hsz (.cells #[.int .i64 x.id, .int .i64 x.table, .int .i64 x.weight, .int .i64 x.at_, .int .i64 x.cursor, .int .i64 x.chunks, .bool x.done] 54)))
        clear hob
        cases ob with
        | false =>
          go_wp2_with (go_at_call 49; (with_reducible refine (one_any x (aheadOf pre) _).mono ?_); rintro e w2 ⟨rfl, hb2⟩; rw [← HOB.out])
          go_ret
          exact ⟨ret_bool (by rw [mayB, okFrom_false (k := k + 1) (by rw [HT.out, HST.out, ← HOB.out]; simp)]; rfl), hW.trans (hb2.mono hW.size)⟩
        | true =>
          have htb : 0 ≤ x.table ∧ x.table < 8 := by
            have := HOB.out
            unfold oneB at this
            have := of_decide_eq_true this.symm
            omega
          obtain ⟨htb0, htb8⟩ := htb
          obtain ⟨oa, hoa⟩ : ∃ oa, oa = openAt pre x.table := ⟨_, rfl⟩
          have HOA := Lib.hid hoa
          clear hoa
          cases oa with
          | true =>
            go_wp2_with (go_at_call 49; (with_reducible refine (one_any x (aheadOf pre) _).mono ?_); rintro e w2 ⟨rfl, hb2⟩; rw [← HOB.out]; have hz2 := hb2.size; have f1 : w2.cell? ⟨wr.heap.size, 1, none⟩ = some (.int .i64 x.table) := (hb2.cell (p := ⟨wr.heap.size, 1, none⟩) (by simp)).trans (World.cell?_alloc_at _ _ _ _ rfl); have f2 : w2.cell? ⟨w.heap.size, x.table.toNat, none⟩ = some (.bool true) := (by have f3 := (((HOP2.out).keep (hb2.mono (by simp; omega))) x.table.toNat (by omega)).1; rw [Int.toNat_of_nonneg htb0, ← HOA.out] at f3; exact f3))
            go_ret
            exact ⟨ret_bool (by rw [mayB, okFrom_false (k := k + 1) (by rw [HT.out, HST.out, ← HOA.out]; simp)]; rfl), hW.trans (hb2.mono hW.size)⟩
          | false =>
            go_wp2_with (go_at_call 49; (with_reducible refine (one_any x (aheadOf pre) _).mono ?_); rintro e w2 ⟨rfl, hb2⟩; rw [← HOB.out]; have hz2 := hb2.size; have f1 : w2.cell? ⟨wr.heap.size, 1, none⟩ = some (.int .i64 x.table) := (hb2.cell (p := ⟨wr.heap.size, 1, none⟩) (by simp)).trans (World.cell?_alloc_at _ _ _ _ rfl); have f4 : w2.cell? ⟨wr.heap.size, 3, none⟩ = some (.int .i64 x.at_) := (hb2.cell (p := ⟨wr.heap.size, 3, none⟩) (by simp)).trans (World.cell?_alloc_at _ _ _ _ rfl); have f6 : w2.cell? ⟨wr.heap.size, 6, none⟩ = some (.bool x.done) := (hb2.cell (p := ⟨wr.heap.size, 6, none⟩) (by simp)).trans (World.cell?_alloc_at _ _ _ _ rfl); have HOP3 := Lib.hid ((HOP2.out).keep (hb2.mono (by simp; omega))); have f2 : w2.cell? ⟨w.heap.size, x.table.toNat, none⟩ = some (.bool false) := (by have f3 := ((HOP3.out) x.table.toNat (by omega)).1; rw [Int.toNat_of_nonneg htb0, ← HOA.out] at f3; exact f3); have f5 : w2.frozen? ⟨w.heap.size, x.table.toNat, none⟩ = false := ((HOP3.out) x.table.toNat (by omega)).2)
            go_region
            go_wp2
            go_roundw
            case rel =>
              have hbw2 : Below w.heap.size w w2 := hW.trans (hb2.mono hW.size)
              have htk : l.take (k + 1) = pre ++ [x] := by
                have hxx := HX.out
                have hkl : k < l.length := (List.getElem?_eq_some_iff.1 hxx).1
                rw [List.getElem?_eq_getElem hkl] at hxx
                rw [List.take_succ_eq_append_getElem hkl, Option.some.inj hxx, ← HPRE.out]
              refine ⟨k + 1, by omega, by go_num, ?_, ?_, ?_, ?_, ?_⟩
              · rw [htk, aheadOf_snoc]
              · rw [htk]
                exact OpenCells.step (t := x.table.toNat) (w := w2.drew) HOP3.out (Int.toNat_of_nonneg htb0).symm (by omega)
              · rw [HT.out, HOK.out, HST.out, ← HOB.out, ← HOA.out]; rfl
              · exact (hbw2.drew).setCell (Nat.le_refl _) _
              · simp at hz2 ⊢; omega
            case measure => simp [intOf]; omega
      · have hidb : (x.id != (k : Int) + 1) = true := by simp [hid]
        have hs : stepOk pre x = false := by unfold stepOk; rw [HKL.out]; simp [hid]
        have HS := Lib.hid hs
        clear hid hs
        go_wp2_with fail
        go_ret
        exact ⟨ret_bool (by rw [mayB, okFrom_false (k := k + 1) (by rw [HT.out, HS.out, Bool.and_false])]; rfl), (hbel.alloc (by omega) _)⟩
    · have hge : n ≤ k := by omega
      have e1 : okFrom [] l = true := by have := HOK.out; rwa [List.take_of_length_le (by rw [← HL.out]; exact hge)] at this
      have E1 := Lib.hid e1
      clear e1
      go_wp2_with fail
      go_ret
      exact ⟨ret_bool (by rw [mayB, E1.out, ← HL.out, Bool.true_and, decide_eq_decide]; omega), hbel⟩
end Go.Proofs.Ytmnjjmgdeiejkaa
