/- Contract: same.Item. Taken out of the text RefWB. -/
import Derived.Test.YtcohheoahdbgmaaHelpI
import Derived.Test.YtcohheoahdbgmaaBlk
import Derived.Deep.Cut
set_option linter.unusedVariables false
set_option linter.unusedSimpArgs false
namespace Go.Proofs.Ytcohheoahdbgmaa
open Go.RowKit

/-- Two items that are alike are told to be. -/
theorem item_any (lsn : Int) (A A2 B B2 : Option Addr) (n n2 c c2 m m2 d d2 : Nat) (ops : List Opr) (notes : List Note) (w : World) (h1 : IsSl oprRep w (· < w.heap.size) A n ops) (h2 : IsSl oprRep w (· < w.heap.size) B m ops) (h3 : IsSl noteRep w (· < w.heap.size) A2 n2 notes) (h4 : IsSl noteRep w (· < w.heap.size) B2 m2 notes) (hn : n ≤ 281474976710656) (hn2 : n2 ≤ 281474976710656) :
    Calls Try.prog 25 #[.agg #[.int .i64 lsn, .slice A n c, .slice A2 n2 c2], .agg #[.int .i64 lsn, .slice B m d, .slice B2 m2 d2]] w fun e w' => e = .returned (.bool true) ∧ Below w.heap.size w w' := by
  obtain ⟨W, hW⟩ : ∃ W, W = (w.alloc (.cells #[.int .i64 lsn, .slice A n c, .slice A2 n2 c2] 25)).alloc (.cells #[.int .i64 lsn, .slice B m d, .slice B2 m2 d2] 25) := ⟨_, rfl⟩
  have B1 := Lib.hid (show Below w.heap.size w W by rw [hW]; exact ((Below.refl _ _).alloc (Nat.le_refl _) _).alloc (by simp) _)
  have K1 := Lib.hid (show Blk W w.heap.size [.int .i64 lsn, .slice A n c, .slice A2 n2 c2] by rw [hW]; exact (Blk.new rfl rfl).alloc _)
  have K2 := Lib.hid (show Blk W (w.heap.size + 1) [.int .i64 lsn, .slice B m d, .slice B2 m2 d2] by rw [hW]; exact Blk.new rfl (by simp))
  have HW := Lib.hid hW
  have H1 := Lib.hid ((h1.below B1.out).more B1.out.size)
  have H2 := Lib.hid ((h2.below B1.out).more B1.out.size)
  have H3 := Lib.hid ((h3.below B1.out).more B1.out.size)
  have H4 := Lib.hid ((h4.below B1.out).more B1.out.size)
  clear hW h1 h2 h3 h4
  obtain ⟨a0, a1, a2, az⟩ := K1.out.c3
  obtain ⟨b0, b1, b2, bz⟩ := K2.out.c3
  go_enter Try.func25, Try.ntmps25
  go_upto_region 1 with fail
  rw [← HW.out]
  go_wp2_with (first
    | (go_at_call 59; (with_reducible refine (plain_opr A B n m c d ops W H1.out H2.out hn).mono ?_); rintro e w2 ⟨rfl, bel⟩; have BW2 := Lib.hid (B1.out.trans (bel.mono B1.out.size)); have H32 := Lib.hid ((H3.out.below bel).more bel.size); have H42 := Lib.hid ((H4.out.below bel).more bel.size); obtain ⟨a0, a1, a2, az⟩ := (K1.out.after bel).c3; obtain ⟨b0, b1, b2, bz⟩ := (K2.out.after bel).c3; clear bel)
    | (go_at_call 60; (with_reducible refine (plain_note A2 B2 n2 m2 c2 d2 notes w2 H32.out H42.out hn2).mono ?_); rintro e w3 ⟨rfl, bel⟩; have BW3 := Lib.hid (BW2.out.trans (bel.mono BW2.out.size)); clear bel)
    | fail)
  go_ret
  exact ⟨rfl, BW3.out⟩

end Go.Proofs.Ytcohheoahdbgmaa
