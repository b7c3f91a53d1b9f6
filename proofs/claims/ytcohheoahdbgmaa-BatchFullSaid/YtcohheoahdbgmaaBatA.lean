/- Contract: the law's awake (qanatlaw16). -/
import Derived.Test.YtcohheoahdbgmaaBat9
import Derived.Test.YtcohheoahdbgmaaBat4
set_option linter.unusedVariables false
set_option linter.unusedSimpArgs false
namespace Go.Proofs.Ytcohheoahdbgmaa
open Go.RowKit

theorem item_rel0 {w : World} {S : Nat → Prop} {a : Int} (ha : I64 a) : itemRep.rel w S ⟨a, [], []⟩ [.int .i64 a, .slice none 0 0, .slice none 0 0] :=
  ⟨_, _, rfl, ha, ⟨none, 0, 0, rfl, IsSl.nil, Nat.le_refl _, Nat.zero_le _⟩, ⟨none, 0, 0, rfl, IsSl.nil, Nat.le_refl _, Nat.zero_le _⟩⟩
theorem two_items {w : World} {t : TypeId} {a b : Int} (ha : I64 a) (hb : I64 b) {B d : Nat} (hB : w.heap.size < B) (hd : d = w.heap.size) : IsSl itemRep (w.alloc (.cells #[.int .i64 a, .slice none 0 0, .slice none 0 0, .int .i64 b, .slice none 0 0, .slice none 0 0] t)) (· < B) (some ⟨d, 0, none⟩) 2 [⟨a, [], []⟩, ⟨b, [], []⟩] := by
  subst hd
  exact ⟨rfl, _, (Rows.single (item_rel0 ha)).append (Rows.single (item_rel0 hb)), fun _ => ⟨w.heap.size, 0, rfl, hB, fun j u hu => by rw [Nat.zero_add, World.cell?_alloc_at _ _ _ _ rfl]; simpa using hu⟩⟩
theorem may2 : mayItem ⟨2, [], []⟩ = true := by decide
theorem join12 : joinV [⟨1, [], []⟩, ⟨2, [], []⟩] = ⟨2, [], []⟩ ∧ joinE [⟨1, [], []⟩, ⟨2, [], []⟩] = 0 := by
  have h : joinE [⟨1, [], []⟩, ⟨2, [], []⟩] = 0 := by decide
  exact ⟨if_pos h, h⟩
theorem join22 : joinV [⟨2, [], []⟩, ⟨2, [], []⟩] = ⟨0, [], []⟩ ∧ joinE [⟨2, [], []⟩, ⟨2, [], []⟩] = 10 := by
  have h : joinE [⟨2, [], []⟩, ⟨2, [], []⟩] = 10 := by decide
  exact ⟨if_neg (by rw [h]; decide), h⟩
theorem enc2_len : (encIV ⟨2, [], []⟩).length = 29 := by
  rw [(decI_enc may2).2.1]
  decide +kernel

set_option maxRecDepth 100000 in
set_option maxHeartbeats 8000000 in
theorem awake16 (w : World) :
    Calls Try.prog 15 #[] w fun e w' => e = .returned (.bool true) ∧ Below w.heap.size w w' := by
  have h64 : I64 1 ∧ I64 2 := by unfold I64; omega
  have H64 := Lib.hid h64
  have HD := Lib.hid (decI_enc may2)
  obtain ⟨bs, hbs⟩ : ∃ bs, bs = encIV ⟨2, [], []⟩ := ⟨_, rfl⟩
  rw [← hbs] at HD
  have HL := Lib.hid (show bs.length = 29 by rw [hbs]; exact enc2_len)
  have HBS := Lib.hid hbs
  clear h64 hbs
  go_enter Try.func15, Try.ntmps15
  go_wp2_with (first
    | (go_at_call 28; (with_reducible refine (batJoin_any _ 2 2 [⟨1, [], []⟩, ⟨2, [], []⟩] _ (two_items H64.out.1 H64.out.2 (by first | exact Nat.lt_succ_self _ | simp) (by first | rfl | simp)) (by omega)).mono ?_); rintro e w2 hres; rw [join12.1, join12.2] at hres; obtain ⟨A1, n1, c1, A2, n2, c2, rfl, s1, p1, q1, s2, p2, q2, bel⟩ := hres; obtain rfl : n1 = 0 := s1.len; obtain rfl : n2 = 0 := s2.len; have B2 := Lib.hid (((Below.refl w.heap.size w).alloc (Nat.le_refl _) _).trans (bel.mono (by simp))); have X2 := Lib.hid (Blk.new (w := w2) (cs := #[.int .i64 2, .slice A1 0 c1, .slice A2 0 c2]) (t := 25) rfl rfl); have BX1 := Lib.hid ((Below.refl w2.heap.size w2).alloc (Nat.le_refl _) (.cells #[.int .i64 2, .slice A1 0 c1, .slice A2 0 c2] 25)); have BX2 := Lib.hid (BX1.out.alloc BX1.out.size (.cells #[.int .i64 2, .slice none 0 0, .slice none 0 0, .int .i64 2, .slice none 0 0, .slice none 0 0] 25)); have HC := Lib.hid (And.intro p1 (And.intro q1 (And.intro p2 q2))); clear s1 s2 bel p1 q1 p2 q2)
    | (go_at_call 28; (with_reducible refine (batJoin_any _ 2 2 [⟨2, [], []⟩, ⟨2, [], []⟩] _ (two_items H64.out.2 H64.out.2 (by first | exact Nat.lt_succ_self _ | simp) (by first | rfl | simp)) (by omega)).mono ?_); rintro e w3 hres; rw [join22.1, join22.2] at hres; obtain ⟨A3, n3, c3, A4, n4, c4, rfl, s3, p3, q3, s4, p4, q4, bel⟩ := hres; have X3 := Lib.hid (((X2.out.alloc _).after bel).alloc (.cells #[.int .i64 0, .slice A3 n3 c3, .slice A4 n4 c4] 25)); have B3 := Lib.hid ((B2.out.trans ((BX2.out.trans (bel.mono BX2.out.size)).mono B2.out.size)).alloc (Nat.le_trans B2.out.size (Nat.le_trans BX2.out.size bel.size)) (.cells #[.int .i64 0, .slice A3 n3 c3, .slice A4 n4 c4] 25)); obtain ⟨x0, x1, x2, xz⟩ := X3.out.c3; clear s3 p3 q3 s4 p4 q4 bel)
    | (go_at_call 18; (with_reducible refine (batEncode_any ⟨2, [], []⟩ A1 0 c1 A2 0 c2 _ IsSl.nil IsSl.nil HC.out.1 HC.out.2.1 HC.out.2.2.1 HC.out.2.2.2 H64.out.2).mono ?_); rintro e w4 ⟨v4, rfl, own4, bel⟩; rw [HD.out.1]; rw [← HBS.out] at own4; obtain ⟨A5, c5, rfl, p5, q5, sl5⟩ := own4.isSlB; rw [HL.out] at sl5 p5 ⊢; have SL5 := Lib.hid sl5; have X4 := Lib.hid (X3.out.after bel); have B4 := Lib.hid (B3.out.trans (bel.mono B3.out.size)); obtain ⟨x0, x1, x2, xz⟩ := X4.out.c3; clear own4 sl5 bel)
    | (go_at_call 24; (with_reducible refine (batDecode_any A5 29 c5 bs _ SL5.out p5 q5).mono ?_); rintro e w6 hres; rw [HD.out.2.2.1, HD.out.2.2.2.1] at hres; obtain ⟨A6, n6, c6, A7, n7, c7, rfl, s6, p6, q6, s7, p7, q7, bel⟩ := hres; have Y6 := Lib.hid (Blk.new (w := w6) (cs := #[.int .i64 2, .slice A6 n6 c6, .slice A7 n7 c7]) (t := 25) rfl rfl); have X6 := Lib.hid ((X4.out.after bel).alloc (.cells #[.int .i64 2, .slice A6 n6 c6, .slice A7 n7 c7] 25)); have B6 := Lib.hid ((B4.out.trans (bel.mono B4.out.size)).alloc (Nat.le_trans B4.out.size bel.size) (.cells #[.int .i64 2, .slice A6 n6 c6, .slice A7 n7 c7] 25)); obtain ⟨x0, x1, x2, xz⟩ := X6.out.c3; obtain ⟨y0, y1, y2, yz⟩ := Y6.out.c3; clear s6 p6 q6 s7 p7 q7 bel)
    | (go_at_call 20; (with_reducible refine (batMay_any ⟨2, [], []⟩ A1 0 c1 A2 0 c2 _ IsSl.nil IsSl.nil HC.out.1 HC.out.2.1 HC.out.2.2.1 HC.out.2.2.2).mono ?_); rintro e w7 ⟨rfl, bel⟩; rw [may2]; have B7 := Lib.hid (B6.out.trans (bel.mono B6.out.size)); clear bel)
    | fail)
  go_ret
  exact ⟨rfl, B7.out⟩
end Go.Proofs.Ytcohheoahdbgmaa
