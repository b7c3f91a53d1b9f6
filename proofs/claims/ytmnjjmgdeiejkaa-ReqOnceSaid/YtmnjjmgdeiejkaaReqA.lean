/- The statements' helper awake of layer 14. -/
import Derived.Test.YtmnjjmgdeiejkaaHelpReq
import Derived.Test.YtmnjjmgdeiejkaaPlay
namespace Go.Proofs.Ytmnjjmgdeiejkaa
open Go.RowKit

theorem Own.isSlA {α : Type} {R : Rep α} {w : World} {base : Nat} {e : TypeId} {v : Value} {l : List α} (h : Own R w base (fun _ => False) e v l) : ∃ A cap, v = .slice A l.length cap ∧ l.length ≤ cap ∧ cap ≤ maxLen ∧ IsSl R w (· < w.heap.size) A l.length l :=
  h.isSl (fun _ h => h.elim) (fun _ _ h => h)

set_option maxHeartbeats 4000000 in
theorem awake14_any (w : World) : Calls Try.prog 39 #[] w fun e w' => e = .returned (.bool true) ∧ Below w.heap.size w w' := by
  have HA1 := Lib.hid (show acceptO [] 3 1 7 = some [⟨1, 3, 1, 7, 0, 0, false⟩] by kernel_rfl)
  have HA2 := Lib.hid (show acceptO [⟨1, 3, 1, 7, 0, 0, false⟩] 3 1 8 = none by decide +kernel)
  have HC := Lib.hid (show chunkO [⟨1, 3, 1, 7, 0, 0, false⟩] 1 5 true = some [⟨1, 3, 1, 7, 5, 1, true⟩] by kernel_rfl)
  have HM := Lib.hid (show mayB [⟨1, 3, 1, 7, 5, 1, true⟩] = true by decide +kernel)
  have HO := Lib.hid (show openL [⟨1, 3, 1, 7, 5, 1, true⟩] = [] by rfl)
  go_enter Try.func39, Try.ntmps39
  go_wp2_with (first
    | (go_at_call 30; (with_reducible refine (accept_any none 0 0 [] 3 1 7 _ IsSl.nil (by omega) (by unfold I64; omega) (by unfold I64; omega) (by unfold I64; omega)).mono ?_); rintro e w2 ⟨v2, rfl, own2, bel2⟩; rw [HA1.out] at own2 ⊢; obtain ⟨g, cap, rfl, hgB, hgl, hcp1, hcp2⟩ := own2.form1 (by simp); have r0 : w2.cell? ⟨g, 0, none⟩ = some (.int .i64 1) := (own_req own2 (k := 0) rfl 0 (by omega)).1; have r1 : w2.cell? ⟨g, 1, none⟩ = some (.int .i64 3) := (own_req own2 (k := 0) rfl 1 (by omega)).1; have r2 : w2.cell? ⟨g, 2, none⟩ = some (.int .i64 1) := (own_req own2 (k := 0) rfl 2 (by omega)).1; have r3 : w2.cell? ⟨g, 3, none⟩ = some (.int .i64 7) := (own_req own2 (k := 0) rfl 3 (by omega)).1; have r4 : w2.cell? ⟨g, 4, none⟩ = some (.int .i64 0) := (own_req own2 (k := 0) rfl 4 (by omega)).1; have r5 : w2.cell? ⟨g, 5, none⟩ = some (.int .i64 0) := (own_req own2 (k := 0) rfl 5 (by omega)).1; have r6 : w2.cell? ⟨g, 6, none⟩ = some (.bool false) := (own_req own2 (k := 0) rfl 6 (by omega)).1; have hs2 := bel2.size; obtain ⟨A2, c2, hv2, _, _, sl2⟩ := own2.isSlA; injection hv2 with hA2 _ hc2; subst hA2 hc2; have SL2 : Hid (IsSl reqRep w2 (· < w2.heap.size) (some ⟨g, 0, none⟩) 1 [⟨1, 3, 1, 7, 0, 0, false⟩]) := Lib.hid sl2; clear own2 sl2)
    | (go_at_call 30; (with_reducible refine (accept_any _ 1 cap [⟨1, 3, 1, 7, 0, 0, false⟩] 3 1 8 _ SL2.out (by omega) (by unfold I64; omega) (by unfold I64; omega) (by unfold I64; omega)).mono ?_); rintro e w3 ⟨v3, rfl, own3, bel3⟩; rw [HA2.out]; have hs3 := bel3.size; have SL3 := Lib.hid ((SL2.out.below bel3).more hs3); have bw3 : Below w.heap.size w w3 := bel2.trans (bel3.mono hs2); clear own3 bel3)
    | (go_at_call 31; (with_reducible refine (chunk_any _ 1 cap [⟨1, 3, 1, 7, 0, 0, false⟩] 1 5 true _ SL3.out (by omega) (by unfold I64; omega) (by unfold I64; omega)).mono ?_); rintro e w4 ⟨v4, rfl, own4, bel4⟩; rw [HC.out] at own4 ⊢; obtain ⟨g4, cap4, rfl, hgB4, hgl4, hcp14, hcp24⟩ := own4.form1 (by simp); have s4 : w4.cell? ⟨g4, 4, none⟩ = some (.int .i64 5) := (own_req own4 (k := 0) rfl 4 (by omega)).1; have s6 : w4.cell? ⟨g4, 6, none⟩ = some (.bool true) := (own_req own4 (k := 0) rfl 6 (by omega)).1; have hs4 := bel4.size; obtain ⟨A4, c4, hv4, _, _, sl4⟩ := own4.isSlA; injection hv4 with hA4 _ hc4; subst hA4 hc4; have SL4 : Hid (IsSl reqRep w4 (· < w4.heap.size) (some ⟨g4, 0, none⟩) 1 [⟨1, 3, 1, 7, 5, 1, true⟩]) := Lib.hid sl4; have bw4 : Below w.heap.size w w4 := bw3.trans (bel4.mono (by omega)); clear own4 sl4 bel4)
    | (go_at_call 35; (with_reducible refine (open_any _ 1 cap4 [⟨1, 3, 1, 7, 5, 1, true⟩] _ SL4.out (by omega)).mono ?_); rintro e w5 ⟨v5, rfl, own5, bel5⟩; rw [HO.out] at own5; obtain ⟨A5, c5, rfl, _, _, _⟩ := own5.isSlA; have hs5 := bel5.size; have SL5 := Lib.hid ((SL4.out.below bel5).more hs5); have bw5 : Below w.heap.size w w5 := bw4.trans (bel5.mono (by omega)); clear own5 bel5)
    | (go_at_call 38; (with_reducible refine (May_any _ 1 cap4 [⟨1, 3, 1, 7, 5, 1, true⟩] _ SL5.out (by omega)).mono ?_); rintro e w6 ⟨rfl, bel6⟩; rw [HM.out])
    | fail)

  go_ret
  exact ⟨rfl, bw5.trans (bel6.mono (by omega))⟩
end Go.Proofs.Ytmnjjmgdeiejkaa
