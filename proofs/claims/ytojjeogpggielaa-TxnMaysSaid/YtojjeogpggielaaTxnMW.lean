/- The walk of the law TxnMays. -/
import Derived.Test.YtojjeogpggielaaTxn14
set_option linter.unusedVariables false
set_option linter.unusedSimpArgs false
namespace Go.Proofs.Ytojjeogpggielaa
open Go.RowKit

theorem great_any (t : Txn) (A : Option Addr) (n c : Nat) (A2 : Option Addr) (n2 c2 : Nat) (w : World) :
    Calls Try.prog 43 #[.agg #[.int .i64 t.lsn, .int .i64 t.kind, .slice A n c, .slice A2 n2 c2, .int .i64 t.mark]] w fun e w' => e = .returned (.bool (decide (200 < wrap64 ((n : Int) + (n2 : Int))))) ∧ Below w.heap.size w w' := by
  have hb0 : ∀ o, Below w.heap.size w (w.alloc o) := fun o => (Below.refl _ _).alloc (Nat.le_refl _) o
  go_enter Try.func43, Try.ntmps43
  go_wp2
  go_ret
  exact ⟨rfl, hb0 _⟩

theorem cells9 {w : World} {b b2 : Nat} {v0 v1 v2 v3 v4 u0 u1 u2 u3 : Value} (h : Blk w b [v0, v1, v2, v3, v4]) (h' : Blk w b2 [u0, u1, u2, u3]) :
    w.cell? ⟨b, 0, none⟩ = some v0 ∧ w.cell? ⟨b, 1, none⟩ = some v1 ∧ w.cell? ⟨b, 2, none⟩ = some v2 ∧ w.cell? ⟨b, 3, none⟩ = some v3 ∧ w.cell? ⟨b, 4, none⟩ = some v4 ∧ w.cell? ⟨b2, 0, none⟩ = some u0 ∧ w.cell? ⟨b2, 1, none⟩ = some u1 ∧ w.cell? ⟨b2, 2, none⟩ = some u2 ∧ w.cell? ⟨b2, 3, none⟩ = some u3 :=
  ⟨h.1 0 _ rfl, h.1 1 _ rfl, h.1 2 _ rfl, h.1 3 _ rfl, h.1 4 _ rfl, h'.1 0 _ rfl, h'.1 1 _ rfl, h'.1 2 _ rfl, h'.1 3 _ rfl⟩

/-- What stays while the last line runs: the two arguments, and all that lay there. -/
structure At9 (w w' : World) (b b2 : Nat) (t : Txn) (A : Option Addr) (n c : Nat) (A2 : Option Addr) (n2 c2 : Nat) (ch : Chg) : Prop where
  bel : Below w.heap.size w w'
  ct : Blk w' b [.int .i64 t.lsn, .int .i64 t.kind, .slice A n c, .slice A2 n2 c2, .int .i64 t.mark]
  cc : Blk w' b2 [.int .i64 ch.table, .int .i64 ch.key, .bool ch.gone, .string ch.val]
  h : IsSl chgRep w' (· < w'.heap.size) A n t.changes
  h2 : IsSl strRep w' (· < w'.heap.size) A2 n2 t.signals

theorem At9.next {w w' w2 : World} {b b2 : Nat} {t : Txn} {A : Option Addr} {n c : Nat} {A2 : Option Addr} {n2 c2 : Nat} {ch : Chg} (h : At9 w w' b b2 t A n c A2 n2 c2 ch) (hb : Below w'.heap.size w' w2) : At9 w w2 b b2 t A n c A2 n2 c2 ch :=
  ⟨h.bel.trans (hb.mono h.bel.size), h.ct.after hb, h.cc.after hb, (h.h.below hb).more hb.size, (h.h2.below hb).more hb.size⟩

theorem At9.cells {w w' : World} {b b2 : Nat} {t : Txn} {A : Option Addr} {n c : Nat} {A2 : Option Addr} {n2 c2 : Nat} {ch : Chg} (h : At9 w w' b b2 t A n c A2 n2 c2 ch) :
    w'.cell? ⟨b, 0, none⟩ = some (.int .i64 t.lsn) ∧ w'.cell? ⟨b, 1, none⟩ = some (.int .i64 t.kind) ∧ w'.cell? ⟨b, 2, none⟩ = some (.slice A n c) ∧ w'.cell? ⟨b, 3, none⟩ = some (.slice A2 n2 c2) ∧ w'.cell? ⟨b, 4, none⟩ = some (.int .i64 t.mark) ∧ w'.cell? ⟨b2, 0, none⟩ = some (.int .i64 ch.table) ∧ w'.cell? ⟨b2, 1, none⟩ = some (.int .i64 ch.key) ∧ w'.cell? ⟨b2, 2, none⟩ = some (.bool ch.gone) ∧ w'.cell? ⟨b2, 3, none⟩ = some (.string ch.val) := cells9 h.ct h.cc

theorem At9.drew {w w' : World} {b b2 : Nat} {t : Txn} {A : Option Addr} {n c : Nat} {A2 : Option Addr} {n2 c2 : Nat} {ch : Chg} (h : At9 w w' b b2 t A n c A2 n2 c2 ch) : At9 w w'.drew b b2 t A n c A2 n2 c2 ch :=
  ⟨below_of_drew0 h.bel, h.ct.drew, h.cc.drew, h.h.keep fun _ _ => rfl, h.h2.keep fun _ _ => rfl⟩

theorem IsSl.drewn {α : Type} {R : Rep α} {w : World} {A : Option Addr} {n : Nat} {l : List α} (h : IsSl R w (· < w.heap.size) A n l) : IsSl R w.drew (· < w.drew.heap.size) A n l := h.keep fun _ _ => rfl

set_option maxRecDepth 100000 in
set_option maxHeartbeats 8000000 in
theorem txnMays_walk (w : World) (x0 : Txn) (cs0 : Array Value) (s0 : txnRep.rel w (· < w.heap.size) x0 cs0.toList) (x1 : Chg) (cs1 : Array Value) (s1 : chgRep.rel w (· < w.heap.size) x1 cs1.toList) (tb : Int) (htb : I64 tb) :
    Calls Try.prog 10 #[.agg cs0, .agg cs1, .int .i64 tb] w fun e w' => e = .returned (.bool true) ∧ Below w.heap.size w w' := by
  obtain ⟨v2, v3, hcs, i0, i1, i2, ⟨A, n, c, h2, sl, hc, hm⟩, ⟨A2, n2, c2, h3, sl2, hc2, hm2⟩⟩ := s0
  obtain rfl : v2 = .slice A n c := by simpa using h2
  obtain rfl : v3 = .slice A2 n2 c2 := by simpa using h3
  obtain ⟨hcs1, hw1⟩ := s1
  obtain rfl : cs0 = #[.int .i64 x0.lsn, .int .i64 x0.kind, .slice A n c, .slice A2 n2 c2, .int .i64 x0.mark] := by rw [← Array.toArray_toList (xs := cs0), hcs]
  obtain rfl : cs1 = #[.int .i64 x1.table, .int .i64 x1.key, .bool x1.gone, .string x1.val] := by rw [← Array.toArray_toList (xs := cs1), hcs1]; rfl
  have HWL := Lib.hid (show I64 x0.lsn ∧ I64 x0.kind ∧ I64 x0.mark from ⟨i0, i1, i2⟩)
  obtain ⟨W, hW⟩ : ∃ W, W = (w.alloc (.cells #[.int .i64 x0.lsn, .int .i64 x0.kind, .slice A n c, .slice A2 n2 c2, .int .i64 x0.mark] 68)).alloc (.cells #[.int .i64 x1.table, .int .i64 x1.key, .bool x1.gone, .string x1.val] 53) := ⟨_, rfl⟩
  have K0 : At9 w W w.heap.size (w.heap.size + 1) x0 A n c A2 n2 c2 x1 := by
    have hb : Below w.heap.size w W := by rw [hW]; exact bw2 _ _ _
    refine ⟨hb, ?_, ?_, (sl.below hb).more hb.size, (sl2.below hb).more hb.size⟩
    · rw [hW]; exact (Blk.new rfl rfl).alloc _
    · rw [hW]; exact Blk.new rfl (by simp)
  have HW := Lib.hid hW
  have H0 := Lib.hid K0
  obtain ⟨t0, t1, t2, t3, t4, q0, q1, q2, q3⟩ := K0.cells
  clear hW K0 sl sl2 hcs hcs1 h2 h3 i0 i1 i2 hw1
  by_cases hg : 200 < wrap64 ((n : Int) + (n2 : Int))
  · have hd : decide (200 < wrap64 ((n : Int) + (n2 : Int))) = true := decide_eq_true hg
    go_enter Try.func10, Try.ntmps10
    go_wp2_with (first
      | (go_at_call 43; rw [← HW.out]; (with_reducible refine (great_any x0 A n c A2 n2 c2 _).mono ?_); rintro e w1 ⟨rfl, bel1⟩; rw [hd]; have H1 := Lib.hid (H0.out.next bel1); clear bel1)
      | (go_at_call 44; (with_reducible refine (awake07_any _).mono ?_); rintro e w2 ⟨rfl, bel2⟩; have H2 := Lib.hid (H1.out.next bel2); clear bel2)
      | fail)
    go_ret
    exact ⟨rfl, H2.out.bel⟩
  · have hd : decide (200 < wrap64 ((n : Int) + (n2 : Int))) = false := decide_eq_false hg
    go_enter Try.func10, Try.ntmps10
    go_wp2_with (first
      | (go_at_call 43; rw [← HW.out]; (with_reducible refine (great_any x0 A n c A2 n2 c2 _).mono ?_); rintro e w1 ⟨rfl, bel1⟩; rw [hd]; have H1 := Lib.hid (H0.out.next bel1); obtain ⟨t0, t1, t2, t3, t4, q0, q1, q2, q3⟩ := H1.out.cells; clear bel1)
      | (go_at_call 45; (with_reducible refine (txnEncode_any x0 A n c A2 n2 c2 _ H1.out.h H1.out.h2 HWL.out).mono ?_); rintro e w2 ⟨v2, rfl, own2, bel2⟩; obtain ⟨A3, c3, rfl, _, _, sl3⟩ := own2.isSlB; have SE := Lib.hid sl3; have H2 := Lib.hid (H1.out.next bel2); obtain ⟨t0, t1, t2, t3, t4, q0, q1, q2, q3⟩ := H2.out.cells; clear own2 bel2 sl3)
      | (go_at_call 46; (with_reducible refine (reftxnEncode_any x0 A n c A2 n2 c2 _ H2.out.h H2.out.h2 HWL.out).mono ?_); rintro e w3 ⟨v3, rfl, own3, bel3⟩; obtain ⟨A4, c4, rfl, _, _, sl4⟩ := own3.isSlB; have SR := Lib.hid sl4; have SE3 := Lib.hid ((SE.out.below bel3).more bel3.size); have H3 := Lib.hid (H2.out.next bel3); obtain ⟨t0, t1, t2, t3, t4, q0, q1, q2, q3⟩ := H3.out.cells; clear own3 bel3 sl4)
      | fail)
    have H3d := Lib.hid H3.out.drew
    have SE3d := Lib.hid SE3.out.drewn
    have SRd := Lib.hid SR.out.drewn
    go_region_held3 (fun w' => w'.cell? ⟨w.heap.size, 0, none⟩ = some (.int .i64 x0.lsn) ∧ w'.cell? ⟨w.heap.size, 1, none⟩ = some (.int .i64 x0.kind) ∧ w'.cell? ⟨w.heap.size, 2, none⟩ = some (.slice A n c) ∧ w'.cell? ⟨w.heap.size, 3, none⟩ = some (.slice A2 n2 c2) ∧ w'.cell? ⟨w.heap.size, 4, none⟩ = some (.int .i64 x0.mark) ∧ w'.cell? ⟨w.heap.size + 1, 0, none⟩ = some (.int .i64 x1.table) ∧ w'.cell? ⟨w.heap.size + 1, 1, none⟩ = some (.int .i64 x1.key) ∧ w'.cell? ⟨w.heap.size + 1, 2, none⟩ = some (.bool x1.gone) ∧ w'.cell? ⟨w.heap.size + 1, 3, none⟩ = some (.string x1.val))
      (first | exact H3.out.cells | exact H4.out.cells | exact H5.out.cells | exact H6.out.cells | exact H7.out.cells | exact H8.out.cells | fail)
      (first
        | (go_at_call 44; (with_reducible refine (awake07_any _).mono ?_); rintro e w4 ⟨rfl, bel4⟩; have H4 := Lib.hid (H3d.out.next bel4); have SE4 := Lib.hid ((SE3d.out.below bel4).more bel4.size); have SR4 := Lib.hid ((SRd.out.below bel4).more bel4.size); clear bel4)
        | (go_at_call 47; (with_reducible refine (may_any x0 A n c A2 n2 c2 _ H4.out.h H4.out.h2).mono ?_); rintro e w5 ⟨rfl, bel5⟩; have H5 := Lib.hid (H4.out.next bel5); have SE5 := Lib.hid ((SE4.out.below bel5).more bel5.size); have SR5 := Lib.hid ((SR4.out.below bel5).more bel5.size); clear bel5)
        | (go_at_call 47; (with_reducible refine (may_any x0 A n c A2 n2 c2 _ H5.out.h H5.out.h2).mono ?_); rintro e w6 ⟨rfl, bel6⟩; have H6 := Lib.hid (H5.out.next bel6); have SE6 := Lib.hid ((SE5.out.below bel6).more bel6.size); have SR6 := Lib.hid ((SR5.out.below bel6).more bel6.size); clear bel6)
        | (go_at_call 48; (with_reducible refine (refmay_any x0 A n c A2 n2 c2 _ H4.out.h H4.out.h2).mono ?_); rintro e w5 ⟨rfl, bel5⟩; have H5 := Lib.hid (H4.out.next bel5); have SE5 := Lib.hid ((SE4.out.below bel5).more bel5.size); have SR5 := Lib.hid ((SR4.out.below bel5).more bel5.size); clear bel5)
        | (go_at_call 48; (with_reducible refine (refmay_any x0 A n c A2 n2 c2 _ H5.out.h H5.out.h2).mono ?_); rintro e w6 ⟨rfl, bel6⟩; have H6 := Lib.hid (H5.out.next bel6); have SE6 := Lib.hid ((SE5.out.below bel6).more bel6.size); have SR6 := Lib.hid ((SR5.out.below bel6).more bel6.size); clear bel6)
        | (go_at_call 49; (with_reducible refine (bytes_any _ _ _ _ _ _ (encTV x0) _ _ _ SE6.out SR6.out).mono ?_); rintro e w' ⟨rfl, rfl⟩)
        | (go_at_call 50; (with_reducible refine (mayChange_any x1 tb w6).mono ?_); rintro e w7 ⟨rfl, bel7⟩; have H7 := Lib.hid (H6.out.next bel7); clear bel7)
        | (go_at_call 50; (with_reducible refine (mayChange_any x1 tb w7).mono ?_); rintro e w8 ⟨rfl, bel8⟩; have H8 := Lib.hid (H7.out.next bel8); clear bel8)
        | (go_at_call 51; (with_reducible refine (refmayChange_any x1 tb w6).mono ?_); rintro e w7 ⟨rfl, bel7⟩; have H7 := Lib.hid (H6.out.next bel7); clear bel7)
        | (go_at_call 51; (with_reducible refine (refmayChange_any x1 tb w7).mono ?_); rintro e w8 ⟨rfl, bel8⟩; have H8 := Lib.hid (H7.out.next bel8); clear bel8)
        | fail)
    all_goals go_wp2
    all_goals go_ret
    all_goals exact ⟨rfl, H8.out.bel⟩
end Go.Proofs.Ytojjeogpggielaa
