/- awake of layer 13; the walk of SignalReads. -/
import Derived.Test.YtojjeogpggielaaSig5
import Derived.Test.YtojjeogpggielaaPlay
set_option linter.unusedVariables false
namespace Go.Proofs.Ytojjeogpggielaa
open Go.RowKit

theorem aw1 : sigV (parseS (⟨#[115, 110, 97, 112, 115, 104, 111, 116, 32, 51]⟩ : ByteArray).data.toList) = .tuple #[.agg #[.int .i64 3, .int .i64 1], .bool true] := by
  rw [show parseS (⟨#[115, 110, 97, 112, 115, 104, 111, 116, 32, 51]⟩ : ByteArray).data.toList = (3, 1, true) by decide]
  rfl

theorem aw2 : (⟨(textL 3 2).toArray⟩ : ByteArray) = ⟨#[115, 110, 97, 112, 115, 104, 111, 116, 32, 51, 32, 50]⟩ ∧ textOk 3 2 = true := by
  rw [show textL 3 2 = [115, 110, 97, 112, 115, 104, 111, 116, 32, 51, 32, 50] by decide]
  exact ⟨rfl, by decide⟩

set_option maxHeartbeats 1000000 in
theorem awake13_any (w : World) : Calls Try.prog 38 #[] w fun e w' => e = .returned (.bool true) ∧ Below w.heap.size w w' := by
  have A1 := Lib.hid aw1
  have A2 := Lib.hid aw2
  go_enter Try.func38, Try.ntmps38
  go_wp2_with (first
    | (go_at_call 39; (with_reducible refine (parse_any ⟨#[115, 110, 97, 112, 115, 104, 111, 116, 32, 51]⟩ _ (by decide)).mono ?_); rintro e w1 ⟨rfl, bel1⟩; rw [A1.out]; have BEL1 := Lib.hid bel1; have hs1 := bel1.size; clear bel1)
    | (go_at_call 41; (with_reducible refine (text_any 3 2 _).mono ?_); rintro e w2 ⟨rfl, bel2⟩; rw [A2.out.1, A2.out.2]; have f0 : w2.cell? ⟨w1.heap.size, 0, none⟩ = some (.int .i64 3) := (bel2.cell (p := ⟨w1.heap.size, 0, none⟩) (by simp)).trans (by simp [go_sem]); have f1 : w2.cell? ⟨w1.heap.size, 1, none⟩ = some (.int .i64 1) := (bel2.cell (p := ⟨w1.heap.size, 1, none⟩) (by simp)).trans (by simp [go_sem]); have BEL2 := Lib.hid bel2; clear bel2)
    | fail)
  go_ret
  refine ⟨rfl, Below.trans ?_ (BEL2.out.mono ?_)⟩
  · exact BEL1.out.alloc hs1 _
  · simp; omega

theorem sigV_split (l : List UInt8) : ∃ a b c, sigV (parseS l) = .tuple #[.agg #[.int .i64 a, .int .i64 b], .bool c] := ⟨_, _, _, rfl⟩

theorem str_app (a b : ByteArray) : (a ++ b).size = a.size + b.size := ByteArray.size_append

set_option maxHeartbeats 2000000 in
theorem signalReads_walk (w : World) (s : ByteArray) (hs : s.size ≤ maxLen) (hsz : s.size ≤ 140737488351232) (t : ByteArray) (ht : t.size ≤ maxLen) (htz : t.size ≤ 140737488351232) :
    Calls Try.prog 7 #[.string s, .string t] w fun e w' => e = .returned (.bool true) ∧ Below w.heap.size w w' := by
  go_enter Try.func7, Try.ntmps7
  go_wp2_with (first
    | (go_at_call 38; (with_reducible refine (awake13_any _).mono ?_); rintro e w1 ⟨rfl, bel1⟩; have BEL1 := Lib.hid bel1; have hs1 := bel1.size; clear bel1)
    | fail)
  obtain ⟨W, hW⟩ : ∃ W, W = w1.alloc (.cells #[Value.string s, Value.string ({ data := #[115, 110, 97, 112, 115, 104, 111, 116, 32] } ++ s), Value.string ({ data := #[115, 110, 97, 112, 115, 104, 111, 116, 32] } ++ t ++ { data := #[32] } ++ s), Value.string ({ data := #[115, 110, 97, 112, 115, 104, 111, 116, 32, 49] } ++ s), Value.string (s ++ { data := #[115, 110, 97, 112, 115, 104, 111, 116, 32, 50] })] 9) := ⟨_, rfl⟩
  have hX : ∀ p : Nat, p < 5 → ∃ x : ByteArray, W.cell? ⟨w1.heap.size, p, none⟩ = some (.string x) ∧ x.size ≤ maxLen := by
    intro p hp
    rw [hW]
    have : p = 0 ∨ p = 1 ∨ p = 2 ∨ p = 3 ∨ p = 4 := by omega
    unfold maxLen
    rcases this with rfl | rfl | rfl | rfl | rfl
    all_goals
      refine ⟨_, World.cell?_alloc_at _ _ _ _ rfl, ?_⟩
      try simp only [str_app]
      try rw [show (ByteArray.mk #[115, 110, 97, 112, 115, 104, 111, 116, 32]).size = 9 from rfl]
      try rw [show (ByteArray.mk #[32]).size = 1 from rfl]
      try rw [show (ByteArray.mk #[115, 110, 97, 112, 115, 104, 111, 116, 32, 49]).size = 10 from rfl]
      try rw [show (ByteArray.mk #[115, 110, 97, 112, 115, 104, 111, 116, 32, 50]).size = 10 from rfl]
      omega
  have hgW : w1.heap.size < W.heap.size := by rw [hW]; simp
  have BELW := Lib.hid (show Below w.heap.size w W by rw [hW]; exact BEL1.out.alloc hs1 _)
  obtain ⟨g, hg⟩ : ∃ g, g = w1.heap.size := ⟨_, rfl⟩
  rw [← hg] at hX hgW
  rw [← hW, ← hg]
  clear hW hg
  go_loopw [27] (fun i wr => ∃ p : Nat, i = .int .i64 p ∧ p ≤ 5 ∧ Below W.heap.size W wr) (fun i _ => 5 - (intOf i).toNat)
  case atStart => exact ⟨0, rfl, by omega, Below.refl _ _⟩
  case round =>
    obtain ⟨p, rfl, hp, hbel⟩ := hrel
    have hs := hbel.size
    by_cases hlt : p < 5
    · obtain ⟨x, hx, hxs⟩ := hX p hlt
      have hc0 : wr.cell? ⟨g, p, none⟩ = some (.string x) := (hbel.cell (p := ⟨g, p, none⟩) hgW).trans hx
      have HX := Lib.hid hX
      obtain ⟨ta, wa, ok, hv⟩ := sigV_split x.data.toList
      have HV := Lib.hid hv
      clear hX hx hv
      go_wp2_with (first
        | (go_at_call 39; (with_reducible refine (parse_any x _ hxs).mono ?_); rintro e w2 ⟨rfl, bel2⟩; rw [HV.out]; have BEL2 := Lib.hid bel2; have hs2 := bel2.size; clear bel2)
        | (go_at_call 40; (with_reducible refine (refparse_any x _ hxs).mono ?_); rintro e w3 ⟨rfl, bel3⟩; rw [HV.out]; have f0 : w3.cell? ⟨w2.heap.size, 0, none⟩ = some (.int .i64 ta) := (bel3.cell (p := ⟨w2.heap.size, 0, none⟩) (by simp)).trans (by simp [go_sem]); have f1 : w3.cell? ⟨w2.heap.size, 1, none⟩ = some (.int .i64 wa) := (bel3.cell (p := ⟨w2.heap.size, 1, none⟩) (by simp)).trans (by simp [go_sem]); have hs3 : w2.heap.size < w3.heap.size := (by have h33 := bel3.size; simp at h33; omega); have BEL3 := Lib.hid bel3; clear bel3)
        | fail)
      go_roundw
      case rel =>
        refine ⟨p + 1, by go_num, by omega, hbel.trans (Below.mono ?_ hs)⟩
        exact ((BEL2.out.alloc hs2 _).trans (BEL3.out.mono (by simp; omega))).alloc (by omega) _
      case measure => simp [intOf]; omega
    · go_wp2_with fail
      go_ret
      exact ⟨rfl, BELW.out.trans (hbel.mono BELW.out.size)⟩
end Go.Proofs.Ytojjeogpggielaa
