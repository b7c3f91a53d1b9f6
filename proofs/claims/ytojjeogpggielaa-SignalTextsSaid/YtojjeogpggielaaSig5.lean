/- Contracts: signal.Text, the reference's Text. -/
import Derived.Test.YtojjeogpggielaaSig4
set_option linter.unusedVariables false
namespace Go.Proofs.Ytojjeogpggielaa
open Go.RowKit

def textOk (t w : Int) : Bool := decide (0 ≤ t ∧ t ≤ 7 ∧ 1 ≤ w ∧ w ≤ 8)
/-- A signal's text. -/
def textL (t w : Int) : List UInt8 := if textOk t w then wordL ++ [UInt8.ofNat (48 + t.toNat), 32, UInt8.ofNat (48 + w.toNat)] else []

theorem three_bytes (t g : Int) (h1 : 0 ≤ t) (h2 : t ≤ 7) (h3 : 1 ≤ g) (h4 : g ≤ 8) : (#[.int .u8 (48 + t), .int .u8 32, .int .u8 (48 + g)] : Array Value) = (byteVals [UInt8.ofNat (48 + t.toNat), 32, UInt8.ofNat (48 + g.toNat)]).toArray := by
  have e1 : ((UInt8.ofNat (48 + t.toNat)).toNat : Int) = 48 + t := by rw [UInt8.toNat_ofNat']; omega
  have e2 : ((UInt8.ofNat (48 + g.toNat)).toNat : Int) = 48 + g := by rw [UInt8.toNat_ofNat']; omega
  rw [← e1, ← e2]
  rfl

theorem word_app (x y : UInt8) : (⟨#[115, 110, 97, 112, 115, 104, 111, 116, 32]⟩ : ByteArray) ++ (⟨#[x, 32, y]⟩ : ByteArray) = ⟨(wordL ++ [x, 32, y]).toArray⟩ := by
  apply ByteArray.ext
  simp [wordL]

set_option maxRecDepth 8000 in
set_option maxHeartbeats 2000000 in
theorem text_any (t g : Int) (w : World) :
    Calls Try.prog 41 #[.agg #[.int .i64 t, .int .i64 g]] w fun e w' => e = .returned (.tuple #[.string ⟨(textL t g).toArray⟩, .bool (textOk t g)]) ∧ Below w.heap.size w w' := by
  by_cases hok : 0 ≤ t ∧ t ≤ 7 ∧ 1 ≤ g ∧ g ≤ 8
  · have HO := Lib.hid (show textOk t g = true from decide_eq_true hok)
    have HL := Lib.hid (show textL t g = wordL ++ [UInt8.ofNat (48 + t.toNat), 32, UInt8.ofNat (48 + g.toNat)] by unfold textL; rw [HO.out]; rfl)
    obtain ⟨h1, h2, h3, h4⟩ := hok
    have hb3 := three_bytes t g h1 h2 h3 h4
    obtain ⟨x, hx⟩ : ∃ x, x = UInt8.ofNat (48 + t.toNat) := ⟨_, rfl⟩
    obtain ⟨y, hy⟩ : ∃ y, y = UInt8.ofNat (48 + g.toNat) := ⟨_, rfl⟩
    rw [← hx, ← hy] at hb3 HL
    have HA := Lib.hid (word_app x y)
    have hcv := run_str_of (P := Try.prog) (c := 3) 84 9 5 Try.underlying84 Try.underlying5 Try.underlying9 (IsSl.newBytes (S := fun _ => True) (t := 5) (w := w.alloc (.cells #[.int .i64 t, .int .i64 g] 77)) [x, 32, y] hb3 (n := 3) rfl trivial)
    rw [show (w.alloc (.cells #[.int .i64 t, .int .i64 g] 77)).heap.size = w.heap.size + 1 by simp] at hcv
    clear hb3 hx hy
    go_enter Try.func41, Try.ntmps41
    go_wp2
    go_ret2
    refine ⟨?_, ?_⟩
    · rw [HL.out, HO.out, ← HA.out]; rfl
    · repeat first | exact Below.refl _ _ | refine Below.alloc ?_ (by simp) _
  · have HO := Lib.hid (show textOk t g = false from decide_eq_false hok)
    have HL := Lib.hid (show textL t g = [] by unfold textL; rw [HO.out]; rfl)
    have hc : t < 0 ∨ (0 ≤ t ∧ 7 < t) ∨ (0 ≤ t ∧ t ≤ 7 ∧ g < 1) ∨ (0 ≤ t ∧ t ≤ 7 ∧ 1 ≤ g ∧ 8 < g) := by omega
    clear hok
    rcases hc with h | ⟨h, h1⟩ | ⟨h, h1, h2⟩ | ⟨h, h1, h2, h3⟩
    all_goals
      go_enter Try.func41, Try.ntmps41
      go_wp2
      go_ret2
      refine ⟨?_, ?_⟩
      · rw [HL.out, HO.out]; rfl
      · repeat first | exact Below.refl _ _ | refine Below.alloc ?_ (by simp) _

set_option maxRecDepth 8000 in
set_option maxHeartbeats 2000000 in
theorem reftext_any (t g : Int) (w : World) :
    Calls Try.prog 42 #[.agg #[.int .i64 t, .int .i64 g]] w fun e w' => e = .returned (.tuple #[.string ⟨(textL t g).toArray⟩, .bool (textOk t g)]) ∧ Below w.heap.size w w' := by
  by_cases hok : 0 ≤ t ∧ t ≤ 7 ∧ 1 ≤ g ∧ g ≤ 8
  · have HO := Lib.hid (show textOk t g = true from decide_eq_true hok)
    have HL := Lib.hid (show textL t g = wordL ++ [UInt8.ofNat (48 + t.toNat), 32, UInt8.ofNat (48 + g.toNat)] by unfold textL; rw [HO.out]; rfl)
    obtain ⟨h1, h2, h3, h4⟩ := hok
    have hb3 := three_bytes t g h1 h2 h3 h4
    obtain ⟨x, hx⟩ : ∃ x, x = UInt8.ofNat (48 + t.toNat) := ⟨_, rfl⟩
    obtain ⟨y, hy⟩ : ∃ y, y = UInt8.ofNat (48 + g.toNat) := ⟨_, rfl⟩
    rw [← hx, ← hy] at hb3 HL
    have HA := Lib.hid (word_app x y)
    have hcv := run_str_of (P := Try.prog) (c := 3) 84 9 5 Try.underlying84 Try.underlying5 Try.underlying9 (IsSl.newBytes (S := fun _ => True) (t := 5) (w := w.alloc (.cells #[.int .i64 t, .int .i64 g] 77)) [x, 32, y] hb3 (n := 3) rfl trivial)
    rw [show (w.alloc (.cells #[.int .i64 t, .int .i64 g] 77)).heap.size = w.heap.size + 1 by simp] at hcv
    clear hb3 hx hy
    go_enter Try.func42, Try.ntmps42
    go_wp2
    go_ret2
    refine ⟨?_, ?_⟩
    · rw [HL.out, HO.out, ← HA.out]; rfl
    · repeat first | exact Below.refl _ _ | refine Below.alloc ?_ (by simp) _
  · have HO := Lib.hid (show textOk t g = false from decide_eq_false hok)
    have HL := Lib.hid (show textL t g = [] by unfold textL; rw [HO.out]; rfl)
    have hc : t < 0 ∨ (0 ≤ t ∧ 7 < t) ∨ (0 ≤ t ∧ t ≤ 7 ∧ g < 1) ∨ (0 ≤ t ∧ t ≤ 7 ∧ 1 ≤ g ∧ 8 < g) := by omega
    clear hok
    rcases hc with h | ⟨h, h1⟩ | ⟨h, h1, h2⟩ | ⟨h, h1, h2, h3⟩
    all_goals
      go_enter Try.func42, Try.ntmps42
      go_wp2
      go_ret2
      refine ⟨?_, ?_⟩
      · rw [HL.out, HO.out]; rfl
      · repeat first | exact Below.refl _ _ | refine Below.alloc ?_ (by simp) _
end Go.Proofs.Ytojjeogpggielaa
