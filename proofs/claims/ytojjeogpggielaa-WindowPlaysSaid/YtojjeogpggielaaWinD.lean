/- Contract of the law's do: an op of a window and of the reference's. -/
import Derived.Test.YtojjeogpggielaaWinP
import Derived.Test.YtojjeogpggielaaWinT
set_option linter.unusedVariables false
set_option linter.unusedSimpArgs false
namespace Go.Proofs.Ytojjeogpggielaa
open Go.RowKit

def Fine (x : Win) : Prop := x.rows.length ≤ 100000 ∧ I64 x.id ∧ I64 x.table ∧ I64 x.cursor ∧ I64 x.after ∧ x.n ≤ 64
theorem fine0 (n : Int) (h : n ≤ 64) : Fine (win0 n) := by
  have z : I64 0 := ⟨by decide, by decide⟩
  exact ⟨Nat.zero_le _, z, z, z, z, h⟩
theorem quiet_eq {P : Program} {f : FuncId} {args : Array Value} {w : World} {n : Nat} {v : Value}
    (h : Calls P f args (w.drewN n) fun e w' => e = .returned v ∧ w.drewN n = w') : Calls P f args (w.drewN n) fun e w'' => e = .returned v ∧ ∃ m, w'' = w.drewN m :=
  h.mono fun _ _ ⟨he, hm⟩ => ⟨he, n, hm.symm⟩
theorem rising_last : ∀ (l : List Row) (k : Int), rising k l = true → k ≤ lastKey l k ∧ (lastKey l k = k ∨ lastKey l k ≤ 1099511627776)
  | [], k, _ => by rw [lastKey_nil]; exact ⟨Int.le_refl _, .inl rfl⟩
  | r :: t, k, h => by
    rw [rising, Bool.and_eq_true] at h
    have h1 := of_decide_eq_true h.1
    have h2 := rising_last t r.key h.2
    rw [lastKey_cons]
    exact ⟨by omega, .inr (by omega)⟩
theorem Fine.opened {x : Win} (h : Fine x) (m i t a : Int) : Fine (x.opened m i t a) := by
  unfold Win.opened
  by_cases hk : x.openOk m i t a = true
  · rw [if_pos hk]
    have := of_decide_eq_true hk
    exact ⟨Nat.zero_le _, ⟨by dsimp only; omega, by dsimp only; omega⟩, ⟨by dsimp only; omega, by dsimp only; omega⟩, ⟨by dsimp only; decide, by dsimp only; decide⟩, ⟨by dsimp only; omega, by dsimp only; omega⟩, h.2.2.2.2.2⟩
  · rw [if_neg hk]; exact h
theorem Fine.filled {x : Win} (h : Fine x) (l : List Row) : Fine (x.filled l) := by
  unfold Win.filled
  by_cases hk : x.fillOk l = true
  · rw [if_pos hk]
    unfold Win.fillOk at hk
    rw [Bool.and_eq_true] at hk
    have h1 := of_decide_eq_true hk.1
    have h2 := rising_last l x.after hk.2
    have h3 := h.2.2.2.2.1
    have h4 := h.2.2.2.2.2
    obtain ⟨h3a, h3b⟩ := h3
    refine ⟨?_, h.2.1, h.2.2.1, ⟨?_, ?_⟩, ⟨h3a, h3b⟩, h4⟩ <;> (dsimp only; omega)
  · rw [if_neg hk]; exact h
theorem Fine.shut {x : Win} (h : Fine x) : Fine x.shut := by
  unfold Win.shut
  split
  · exact h
  · exact h
theorem Fine.low {x : Win} (h : Fine x) (m : Int) : Fine (x.low m) := by
  unfold Win.low
  split
  · exact h
  · exact h
theorem Fine.see {x : Win} (h : Fine x) (l : List Chg) : Fine (x.see l) := by
  unfold Win.see
  split
  · exact ⟨Nat.le_trans (seeL_len _ _ _) h.1, h.2⟩
  · exact h
theorem Fine.told {x : Win} (h : Fine x) (m l : Int) : Fine (x.told m l) := by
  unfold Win.told
  split
  · exact fine0 _ h.2.2.2.2.2
  · exact h

theorem Pair.toBelow {w0 w : World} {S : Nat → Prop} {g gx : Nat} {x y : Win} (h : Pair w0 w S g gx x y) : Below w0.heap.size w0 w := h.win.bel

section
variable {w0 w : World} {S : Nat → Prop} {g gx : Nat} {x : Win}
def DoPost (w0 : World) (g gx : Nat) (e : Ending) (w' : World) : Prop := e = .returned (.bool true) ∧ ∃ S' x', Pair w0 w' S' g gx x' x' ∧ Fine x'
set_option maxHeartbeats 16000000 in
set_option maxRecDepth 100000 in
theorem do_open_mod (h : Pair w0 w S g gx x x) (hf : Fine x) (ok oi ot on om oa : Int) (A6 : Option Addr) (n6 c6 : Nat) (A7 : Option Addr) (n7 c7 : Nat) (rows : List Row) (chs : List Chg) (s6 : IsSl rowRep w0 (· < w0.heap.size) A6 n6 rows) (s7 : IsSl chgRep w0 (· < w0.heap.size) A7 n7 chs) (hm6 : n6 ≤ maxLen) (hc6 : n6 ≤ c6) (hraw : modOf on 13 ≠ 12) (hk : modOf ok 12 < 2) :
    Calls Try.prog 36 #[.pointer (some ⟨g, 0, none⟩), .pointer (some ⟨gx, 0, none⟩), .agg #[.int .i64 ok, .int .i64 oi, .int .i64 ot, .int .i64 on, .int .i64 om, .int .i64 oa, .slice A6 n6 c6, .slice A7 n7 c7]] w (DoPost w0 g gx) := by
  unfold DoPost
  obtain ⟨mk, hmk⟩ : ∃ mk, mk = modOf om 3 := ⟨_, rfl⟩
  obtain ⟨rn, hrn⟩ : ∃ rn, rn = modOf on 13 := ⟨_, rfl⟩
  obtain ⟨kk, hkk⟩ : ∃ kk, kk = modOf ok 12 := ⟨_, rfl⟩
  have hmr := modOf_range om 3 (by omega)
  rw [← hmk] at hmr
  obtain ⟨hm0, hm1⟩ := hmr
  rw [← hrn] at hraw
  rw [← hkk] at hk
  have HMK := Lib.hid hmk
  have HRN := Lib.hid hrn
  have HKK := Lib.hid hkk
  obtain ⟨W1, hW1⟩ : ∃ W1, W1 = w.alloc (.cells #[.int .i64 ok, .int .i64 oi, .int .i64 ot, .int .i64 on, .int .i64 om, .int .i64 oa, .slice A6 n6 c6, .slice A7 n7 c7] 64) := ⟨_, rfl⟩
  have B1 := Lib.hid (show Below w.heap.size w W1 by rw [hW1]; exact (Below.refl _ _).alloc (Nat.le_refl _) _)
  have K1 := Lib.hid (show Blk W1 w.heap.size [.int .i64 ok, .int .i64 oi, .int .i64 ot, .int .i64 on, .int .i64 om, .int .i64 oa, .slice A6 n6 c6, .slice A7 n7 c7] by rw [hW1]; exact Blk.new rfl rfl)
  have HW1 := Lib.hid hW1
  obtain ⟨S1, hS1⟩ : ∃ S1, S1 = (fun k => S k ∨ (w.heap.size ≤ k ∧ k < W1.heap.size)) := ⟨_, rfl⟩
  have P1 := Lib.hid (show Pair w0 W1 S1 g gx x x by rw [hS1]; exact h.below B1.out)
  have HF := Lib.hid hf
  have S6 := Lib.hid s6
  have S7 := Lib.hid s7
  have drw : (rn == 12) = false := by simpa using hraw
  have drwd : decide (rn = 12) = false := by exact decide_eq_false hraw
  have q0 := K1.out.1 0 _ rfl
  have q1 := K1.out.1 1 _ rfl
  have q2 := K1.out.1 2 _ rfl
  have q3 := K1.out.1 3 _ rfl
  have q4 := K1.out.1 4 _ rfl
  have q5 := K1.out.1 5 _ rfl
  have q6 := K1.out.1 6 _ rfl
  have q7 := K1.out.1 7 _ rfl
  have hWs : w.heap.size < W1.heap.size := K1.out.lt
  clear hmk hrn hkk hW1 hS1 h hf s6 s7
  have dk2 : decide (kk < 2) = true := decide_eq_true (by omega)
  have hi3 := modOf_range oi 3 (by omega)
  have ht3 := modOf_range ot 3 (by omega)
  have ha9 := modOf_range oa 9 (by omega)
  obtain ⟨i3, hi3e⟩ : ∃ i3, i3 = modOf oi 3 := ⟨_, rfl⟩
  obtain ⟨t3, ht3e⟩ : ∃ t3, t3 = modOf ot 3 := ⟨_, rfl⟩
  obtain ⟨a9, ha9e⟩ : ∃ a9, a9 = modOf oa 9 := ⟨_, rfl⟩
  rw [← hi3e] at hi3
  have HI := Lib.hid hi3e
  have HT := Lib.hid ht3e
  have HA := Lib.hid ha9e
  have hwr : IntKind.i64.wrap (1 + modOf oi 3) = 1 + i3 := by rw [← hi3e]; exact IntWalk.i64_in _ (by omega)
  have hwt : modOf ot 3 = t3 := ht3e.symm
  have hwa : modOf oa 9 = a9 := ha9e.symm
  clear ht3 ha9 hi3 hi3e ht3e ha9e
  clear hraw hk
  go_enter Try.func36, Try.ntmps36
  go_wp2_with (first
    | (go_at_call 19; (with_reducible refine (big_any om 3 _ (by omega) (by omega)).mono ?_); rintro e w' ⟨rfl, rfl⟩; rw [← HMK.out])
    | (go_at_call 15; (with_reducible refine (mod_any on 13 _ (by omega) (by omega)).mono ?_); rintro e w' ⟨rfl, rfl⟩; rw [← HRN.out])
    | (go_at_call 15; (with_reducible refine (mod_any ok 12 _ (by omega) (by omega)).mono ?_); rintro e w' ⟨rfl, rfl⟩; rw [← HKK.out])
    | fail)
  rw [← HW1.out]
  go_quiet ((first
    | (go_at_call 15; exact quiet_eq (mod_any oi 3 _ (by omega) (by omega)))
    | (go_at_call 15; exact quiet_eq (mod_any ot 3 _ (by omega) (by omega)))
    | (go_at_call 19; exact quiet_eq (big_any oa 9 _ (by omega) (by omega)))
    | fail))
  go_wp2_with (first
    | (go_at_call 21; (with_reducible refine (pr_open_w (P1.out.drewN _) (1 + mk) (1 + i3) t3 a9).mono ?_); rintro e w2 ⟨rfl, p2⟩; have P2 := Lib.hid p2; clear p2)
    | (go_at_call 67; (with_reducible refine (pr_open_r P2.out (1 + mk) (1 + i3) t3 a9).mono ?_); rintro e w3 ⟨rfl, S3, p3⟩; have P3 := Lib.hid p3; clear p3)
    | fail)
  go_ret
  exact ⟨rfl, S3, _, P3.out, HF.out.opened _ _ _ _⟩
set_option maxHeartbeats 16000000 in
set_option maxRecDepth 100000 in
theorem do_open_raw (h : Pair w0 w S g gx x x) (hf : Fine x) (ok oi ot on om oa : Int) (A6 : Option Addr) (n6 c6 : Nat) (A7 : Option Addr) (n7 c7 : Nat) (rows : List Row) (chs : List Chg) (s6 : IsSl rowRep w0 (· < w0.heap.size) A6 n6 rows) (s7 : IsSl chgRep w0 (· < w0.heap.size) A7 n7 chs) (hm6 : n6 ≤ maxLen) (hc6 : n6 ≤ c6) (hraw : modOf on 13 = 12) (hk : modOf ok 12 < 2) :
    Calls Try.prog 36 #[.pointer (some ⟨g, 0, none⟩), .pointer (some ⟨gx, 0, none⟩), .agg #[.int .i64 ok, .int .i64 oi, .int .i64 ot, .int .i64 on, .int .i64 om, .int .i64 oa, .slice A6 n6 c6, .slice A7 n7 c7]] w (DoPost w0 g gx) := by
  unfold DoPost
  obtain ⟨mk, hmk⟩ : ∃ mk, mk = modOf om 3 := ⟨_, rfl⟩
  obtain ⟨rn, hrn⟩ : ∃ rn, rn = modOf on 13 := ⟨_, rfl⟩
  obtain ⟨kk, hkk⟩ : ∃ kk, kk = modOf ok 12 := ⟨_, rfl⟩
  have hmr := modOf_range om 3 (by omega)
  rw [← hmk] at hmr
  obtain ⟨hm0, hm1⟩ := hmr
  rw [← hrn] at hraw
  rw [← hkk] at hk
  have HMK := Lib.hid hmk
  have HRN := Lib.hid hrn
  have HKK := Lib.hid hkk
  obtain ⟨W1, hW1⟩ : ∃ W1, W1 = w.alloc (.cells #[.int .i64 ok, .int .i64 oi, .int .i64 ot, .int .i64 on, .int .i64 om, .int .i64 oa, .slice A6 n6 c6, .slice A7 n7 c7] 64) := ⟨_, rfl⟩
  have B1 := Lib.hid (show Below w.heap.size w W1 by rw [hW1]; exact (Below.refl _ _).alloc (Nat.le_refl _) _)
  have K1 := Lib.hid (show Blk W1 w.heap.size [.int .i64 ok, .int .i64 oi, .int .i64 ot, .int .i64 on, .int .i64 om, .int .i64 oa, .slice A6 n6 c6, .slice A7 n7 c7] by rw [hW1]; exact Blk.new rfl rfl)
  have HW1 := Lib.hid hW1
  obtain ⟨S1, hS1⟩ : ∃ S1, S1 = (fun k => S k ∨ (w.heap.size ≤ k ∧ k < W1.heap.size)) := ⟨_, rfl⟩
  have P1 := Lib.hid (show Pair w0 W1 S1 g gx x x by rw [hS1]; exact h.below B1.out)
  have HF := Lib.hid hf
  have S6 := Lib.hid s6
  have S7 := Lib.hid s7
  have drw : (rn == 12) = true := by simpa using hraw
  have drwd : decide (rn = 12) = true := by exact decide_eq_true hraw
  have q0 := K1.out.1 0 _ rfl
  have q1 := K1.out.1 1 _ rfl
  have q2 := K1.out.1 2 _ rfl
  have q3 := K1.out.1 3 _ rfl
  have q4 := K1.out.1 4 _ rfl
  have q5 := K1.out.1 5 _ rfl
  have q6 := K1.out.1 6 _ rfl
  have q7 := K1.out.1 7 _ rfl
  have hWs : w.heap.size < W1.heap.size := K1.out.lt
  clear hmk hrn hkk hW1 hS1 h hf s6 s7
  have dk2 : decide (kk < 2) = true := decide_eq_true (by omega)
  have hi3 := modOf_range oi 3 (by omega)
  have ht3 := modOf_range ot 3 (by omega)
  have ha9 := modOf_range oa 9 (by omega)
  obtain ⟨i3, hi3e⟩ : ∃ i3, i3 = modOf oi 3 := ⟨_, rfl⟩
  obtain ⟨t3, ht3e⟩ : ∃ t3, t3 = modOf ot 3 := ⟨_, rfl⟩
  obtain ⟨a9, ha9e⟩ : ∃ a9, a9 = modOf oa 9 := ⟨_, rfl⟩
  rw [← hi3e] at hi3
  have HI := Lib.hid hi3e
  have HT := Lib.hid ht3e
  have HA := Lib.hid ha9e
  have hwr : IntKind.i64.wrap (1 + modOf oi 3) = 1 + i3 := by rw [← hi3e]; exact IntWalk.i64_in _ (by omega)
  have hwt : modOf ot 3 = t3 := ht3e.symm
  have hwa : modOf oa 9 = a9 := ha9e.symm
  clear ht3 ha9 hi3 hi3e ht3e ha9e
  clear hraw hk
  go_enter Try.func36, Try.ntmps36
  go_wp2_with (first
    | (go_at_call 19; (with_reducible refine (big_any om 3 _ (by omega) (by omega)).mono ?_); rintro e w' ⟨rfl, rfl⟩; rw [← HMK.out])
    | (go_at_call 15; (with_reducible refine (mod_any on 13 _ (by omega) (by omega)).mono ?_); rintro e w' ⟨rfl, rfl⟩; rw [← HRN.out])
    | (go_at_call 15; (with_reducible refine (mod_any ok 12 _ (by omega) (by omega)).mono ?_); rintro e w' ⟨rfl, rfl⟩; rw [← HKK.out])
    | fail)
  rw [← HW1.out]
  go_quiet ((first
    | (go_at_call 15; exact quiet_eq (mod_any oi 3 _ (by omega) (by omega)))
    | (go_at_call 15; exact quiet_eq (mod_any ot 3 _ (by omega) (by omega)))
    | (go_at_call 19; exact quiet_eq (big_any oa 9 _ (by omega) (by omega)))
    | fail))
  go_wp2_with fail
  go_quiet (fail)
  go_wp2_with (first
    | (go_at_call 21; (with_reducible refine (pr_open_w (P1.out.drewN _) om oi ot oa).mono ?_); rintro e w2 ⟨rfl, p2⟩; have P2 := Lib.hid p2; clear p2)
    | (go_at_call 67; (with_reducible refine (pr_open_r P2.out om oi ot oa).mono ?_); rintro e w3 ⟨rfl, S3, p3⟩; have P3 := Lib.hid p3; clear p3)
    | fail)
  go_ret
  exact ⟨rfl, S3, _, P3.out, HF.out.opened _ _ _ _⟩
set_option maxHeartbeats 16000000 in
set_option maxRecDepth 100000 in
theorem do_shut_mod (h : Pair w0 w S g gx x x) (hf : Fine x) (ok oi ot on om oa : Int) (A6 : Option Addr) (n6 c6 : Nat) (A7 : Option Addr) (n7 c7 : Nat) (rows : List Row) (chs : List Chg) (s6 : IsSl rowRep w0 (· < w0.heap.size) A6 n6 rows) (s7 : IsSl chgRep w0 (· < w0.heap.size) A7 n7 chs) (hm6 : n6 ≤ maxLen) (hc6 : n6 ≤ c6) (hraw : modOf on 13 ≠ 12) (hk : modOf ok 12 = 4) :
    Calls Try.prog 36 #[.pointer (some ⟨g, 0, none⟩), .pointer (some ⟨gx, 0, none⟩), .agg #[.int .i64 ok, .int .i64 oi, .int .i64 ot, .int .i64 on, .int .i64 om, .int .i64 oa, .slice A6 n6 c6, .slice A7 n7 c7]] w (DoPost w0 g gx) := by
  unfold DoPost
  obtain ⟨mk, hmk⟩ : ∃ mk, mk = modOf om 3 := ⟨_, rfl⟩
  obtain ⟨rn, hrn⟩ : ∃ rn, rn = modOf on 13 := ⟨_, rfl⟩
  obtain ⟨kk, hkk⟩ : ∃ kk, kk = modOf ok 12 := ⟨_, rfl⟩
  have hmr := modOf_range om 3 (by omega)
  rw [← hmk] at hmr
  obtain ⟨hm0, hm1⟩ := hmr
  rw [← hrn] at hraw
  rw [← hkk] at hk
  have HMK := Lib.hid hmk
  have HRN := Lib.hid hrn
  have HKK := Lib.hid hkk
  obtain ⟨W1, hW1⟩ : ∃ W1, W1 = w.alloc (.cells #[.int .i64 ok, .int .i64 oi, .int .i64 ot, .int .i64 on, .int .i64 om, .int .i64 oa, .slice A6 n6 c6, .slice A7 n7 c7] 64) := ⟨_, rfl⟩
  have B1 := Lib.hid (show Below w.heap.size w W1 by rw [hW1]; exact (Below.refl _ _).alloc (Nat.le_refl _) _)
  have K1 := Lib.hid (show Blk W1 w.heap.size [.int .i64 ok, .int .i64 oi, .int .i64 ot, .int .i64 on, .int .i64 om, .int .i64 oa, .slice A6 n6 c6, .slice A7 n7 c7] by rw [hW1]; exact Blk.new rfl rfl)
  have HW1 := Lib.hid hW1
  obtain ⟨S1, hS1⟩ : ∃ S1, S1 = (fun k => S k ∨ (w.heap.size ≤ k ∧ k < W1.heap.size)) := ⟨_, rfl⟩
  have P1 := Lib.hid (show Pair w0 W1 S1 g gx x x by rw [hS1]; exact h.below B1.out)
  have HF := Lib.hid hf
  have S6 := Lib.hid s6
  have S7 := Lib.hid s7
  have drw : (rn == 12) = false := by simpa using hraw
  have drwd : decide (rn = 12) = false := by exact decide_eq_false hraw
  have q0 := K1.out.1 0 _ rfl
  have q1 := K1.out.1 1 _ rfl
  have q2 := K1.out.1 2 _ rfl
  have q3 := K1.out.1 3 _ rfl
  have q4 := K1.out.1 4 _ rfl
  have q5 := K1.out.1 5 _ rfl
  have q6 := K1.out.1 6 _ rfl
  have q7 := K1.out.1 7 _ rfl
  have hWs : w.heap.size < W1.heap.size := K1.out.lt
  clear hmk hrn hkk hW1 hS1 h hf s6 s7
  have dk2 : decide (kk < 2) = false := decide_eq_false (by omega)
  have dk4 : decide (kk < 4) = false := decide_eq_false (by omega)
  have ek4 : (kk == 4) = true := by simpa using (show kk = 4 by omega)
  have ek4d : decide (kk = 4) = true := decide_eq_true (by omega)
  clear hraw hk
  go_enter Try.func36, Try.ntmps36
  go_wp2_with (first
    | (go_at_call 19; (with_reducible refine (big_any om 3 _ (by omega) (by omega)).mono ?_); rintro e w' ⟨rfl, rfl⟩; rw [← HMK.out])
    | (go_at_call 15; (with_reducible refine (mod_any on 13 _ (by omega) (by omega)).mono ?_); rintro e w' ⟨rfl, rfl⟩; rw [← HRN.out])
    | (go_at_call 15; (with_reducible refine (mod_any ok 12 _ (by omega) (by omega)).mono ?_); rintro e w' ⟨rfl, rfl⟩; rw [← HKK.out])
    | (go_at_call 25; rw [← HW1.out]; (with_reducible refine (pr_shut_w P1.out).mono ?_); rintro e w2 ⟨rfl, p2⟩; have P2 := Lib.hid p2; clear p2)
    | (go_at_call 69; (with_reducible refine (pr_shut_r P2.out).mono ?_); rintro e w3 ⟨rfl, S3, p3⟩; have P3 := Lib.hid p3; clear p3)
    | fail)
  go_ret
  exact ⟨rfl, S3, _, P3.out, HF.out.shut⟩
set_option maxHeartbeats 16000000 in
set_option maxRecDepth 100000 in
theorem do_low_mod (h : Pair w0 w S g gx x x) (hf : Fine x) (ok oi ot on om oa : Int) (A6 : Option Addr) (n6 c6 : Nat) (A7 : Option Addr) (n7 c7 : Nat) (rows : List Row) (chs : List Chg) (s6 : IsSl rowRep w0 (· < w0.heap.size) A6 n6 rows) (s7 : IsSl chgRep w0 (· < w0.heap.size) A7 n7 chs) (hm6 : n6 ≤ maxLen) (hc6 : n6 ≤ c6) (hraw : modOf on 13 ≠ 12) (hk : ¬ modOf ok 12 < 4 ∧ ¬ modOf ok 12 = 4 ∧ modOf ok 12 < 7) :
    Calls Try.prog 36 #[.pointer (some ⟨g, 0, none⟩), .pointer (some ⟨gx, 0, none⟩), .agg #[.int .i64 ok, .int .i64 oi, .int .i64 ot, .int .i64 on, .int .i64 om, .int .i64 oa, .slice A6 n6 c6, .slice A7 n7 c7]] w (DoPost w0 g gx) := by
  unfold DoPost
  obtain ⟨mk, hmk⟩ : ∃ mk, mk = modOf om 3 := ⟨_, rfl⟩
  obtain ⟨rn, hrn⟩ : ∃ rn, rn = modOf on 13 := ⟨_, rfl⟩
  obtain ⟨kk, hkk⟩ : ∃ kk, kk = modOf ok 12 := ⟨_, rfl⟩
  have hmr := modOf_range om 3 (by omega)
  rw [← hmk] at hmr
  obtain ⟨hm0, hm1⟩ := hmr
  rw [← hrn] at hraw
  rw [← hkk] at hk
  have HMK := Lib.hid hmk
  have HRN := Lib.hid hrn
  have HKK := Lib.hid hkk
  obtain ⟨W1, hW1⟩ : ∃ W1, W1 = w.alloc (.cells #[.int .i64 ok, .int .i64 oi, .int .i64 ot, .int .i64 on, .int .i64 om, .int .i64 oa, .slice A6 n6 c6, .slice A7 n7 c7] 64) := ⟨_, rfl⟩
  have B1 := Lib.hid (show Below w.heap.size w W1 by rw [hW1]; exact (Below.refl _ _).alloc (Nat.le_refl _) _)
  have K1 := Lib.hid (show Blk W1 w.heap.size [.int .i64 ok, .int .i64 oi, .int .i64 ot, .int .i64 on, .int .i64 om, .int .i64 oa, .slice A6 n6 c6, .slice A7 n7 c7] by rw [hW1]; exact Blk.new rfl rfl)
  have HW1 := Lib.hid hW1
  obtain ⟨S1, hS1⟩ : ∃ S1, S1 = (fun k => S k ∨ (w.heap.size ≤ k ∧ k < W1.heap.size)) := ⟨_, rfl⟩
  have P1 := Lib.hid (show Pair w0 W1 S1 g gx x x by rw [hS1]; exact h.below B1.out)
  have HF := Lib.hid hf
  have S6 := Lib.hid s6
  have S7 := Lib.hid s7
  have drw : (rn == 12) = false := by simpa using hraw
  have drwd : decide (rn = 12) = false := by exact decide_eq_false hraw
  have q0 := K1.out.1 0 _ rfl
  have q1 := K1.out.1 1 _ rfl
  have q2 := K1.out.1 2 _ rfl
  have q3 := K1.out.1 3 _ rfl
  have q4 := K1.out.1 4 _ rfl
  have q5 := K1.out.1 5 _ rfl
  have q6 := K1.out.1 6 _ rfl
  have q7 := K1.out.1 7 _ rfl
  have hWs : w.heap.size < W1.heap.size := K1.out.lt
  clear hmk hrn hkk hW1 hS1 h hf s6 s7
  have dk2 : decide (kk < 2) = false := decide_eq_false (by omega)
  have dk4 : decide (kk < 4) = false := decide_eq_false (by omega)
  have ek4 : (kk == 4) = false := by simpa using (show ¬ kk = 4 by omega)
  have ek4d : decide (kk = 4) = false := decide_eq_false (by omega)
  have dk7 : decide (kk < 7) = true := decide_eq_true (by omega)
  clear hraw hk
  go_enter Try.func36, Try.ntmps36
  go_wp2_with (first
    | (go_at_call 19; (with_reducible refine (big_any om 3 _ (by omega) (by omega)).mono ?_); rintro e w' ⟨rfl, rfl⟩; rw [← HMK.out])
    | (go_at_call 15; (with_reducible refine (mod_any on 13 _ (by omega) (by omega)).mono ?_); rintro e w' ⟨rfl, rfl⟩; rw [← HRN.out])
    | (go_at_call 15; (with_reducible refine (mod_any ok 12 _ (by omega) (by omega)).mono ?_); rintro e w' ⟨rfl, rfl⟩; rw [← HKK.out])
    | (go_at_call 26; rw [← HW1.out]; (with_reducible refine (pr_low_w P1.out (1 + mk)).mono ?_); rintro e w2 ⟨rfl, p2⟩; have P2 := Lib.hid p2; clear p2)
    | (go_at_call 70; (with_reducible refine (pr_low_r P2.out (1 + mk)).mono ?_); rintro e w3 ⟨rfl, S3, p3⟩; have P3 := Lib.hid p3; clear p3)
    | fail)
  go_ret
  exact ⟨rfl, S3, _, P3.out, HF.out.low _⟩
set_option maxHeartbeats 16000000 in
set_option maxRecDepth 100000 in
theorem do_shut_raw (h : Pair w0 w S g gx x x) (hf : Fine x) (ok oi ot on om oa : Int) (A6 : Option Addr) (n6 c6 : Nat) (A7 : Option Addr) (n7 c7 : Nat) (rows : List Row) (chs : List Chg) (s6 : IsSl rowRep w0 (· < w0.heap.size) A6 n6 rows) (s7 : IsSl chgRep w0 (· < w0.heap.size) A7 n7 chs) (hm6 : n6 ≤ maxLen) (hc6 : n6 ≤ c6) (hraw : modOf on 13 = 12) (hk : modOf ok 12 = 4) :
    Calls Try.prog 36 #[.pointer (some ⟨g, 0, none⟩), .pointer (some ⟨gx, 0, none⟩), .agg #[.int .i64 ok, .int .i64 oi, .int .i64 ot, .int .i64 on, .int .i64 om, .int .i64 oa, .slice A6 n6 c6, .slice A7 n7 c7]] w (DoPost w0 g gx) := by
  unfold DoPost
  obtain ⟨mk, hmk⟩ : ∃ mk, mk = modOf om 3 := ⟨_, rfl⟩
  obtain ⟨rn, hrn⟩ : ∃ rn, rn = modOf on 13 := ⟨_, rfl⟩
  obtain ⟨kk, hkk⟩ : ∃ kk, kk = modOf ok 12 := ⟨_, rfl⟩
  have hmr := modOf_range om 3 (by omega)
  rw [← hmk] at hmr
  obtain ⟨hm0, hm1⟩ := hmr
  rw [← hrn] at hraw
  rw [← hkk] at hk
  have HMK := Lib.hid hmk
  have HRN := Lib.hid hrn
  have HKK := Lib.hid hkk
  obtain ⟨W1, hW1⟩ : ∃ W1, W1 = w.alloc (.cells #[.int .i64 ok, .int .i64 oi, .int .i64 ot, .int .i64 on, .int .i64 om, .int .i64 oa, .slice A6 n6 c6, .slice A7 n7 c7] 64) := ⟨_, rfl⟩
  have B1 := Lib.hid (show Below w.heap.size w W1 by rw [hW1]; exact (Below.refl _ _).alloc (Nat.le_refl _) _)
  have K1 := Lib.hid (show Blk W1 w.heap.size [.int .i64 ok, .int .i64 oi, .int .i64 ot, .int .i64 on, .int .i64 om, .int .i64 oa, .slice A6 n6 c6, .slice A7 n7 c7] by rw [hW1]; exact Blk.new rfl rfl)
  have HW1 := Lib.hid hW1
  obtain ⟨S1, hS1⟩ : ∃ S1, S1 = (fun k => S k ∨ (w.heap.size ≤ k ∧ k < W1.heap.size)) := ⟨_, rfl⟩
  have P1 := Lib.hid (show Pair w0 W1 S1 g gx x x by rw [hS1]; exact h.below B1.out)
  have HF := Lib.hid hf
  have S6 := Lib.hid s6
  have S7 := Lib.hid s7
  have drw : (rn == 12) = true := by simpa using hraw
  have drwd : decide (rn = 12) = true := by exact decide_eq_true hraw
  have q0 := K1.out.1 0 _ rfl
  have q1 := K1.out.1 1 _ rfl
  have q2 := K1.out.1 2 _ rfl
  have q3 := K1.out.1 3 _ rfl
  have q4 := K1.out.1 4 _ rfl
  have q5 := K1.out.1 5 _ rfl
  have q6 := K1.out.1 6 _ rfl
  have q7 := K1.out.1 7 _ rfl
  have hWs : w.heap.size < W1.heap.size := K1.out.lt
  clear hmk hrn hkk hW1 hS1 h hf s6 s7
  have dk2 : decide (kk < 2) = false := decide_eq_false (by omega)
  have dk4 : decide (kk < 4) = false := decide_eq_false (by omega)
  have ek4 : (kk == 4) = true := by simpa using (show kk = 4 by omega)
  have ek4d : decide (kk = 4) = true := decide_eq_true (by omega)
  clear hraw hk
  go_enter Try.func36, Try.ntmps36
  go_wp2_with (first
    | (go_at_call 19; (with_reducible refine (big_any om 3 _ (by omega) (by omega)).mono ?_); rintro e w' ⟨rfl, rfl⟩; rw [← HMK.out])
    | (go_at_call 15; (with_reducible refine (mod_any on 13 _ (by omega) (by omega)).mono ?_); rintro e w' ⟨rfl, rfl⟩; rw [← HRN.out])
    | (go_at_call 15; (with_reducible refine (mod_any ok 12 _ (by omega) (by omega)).mono ?_); rintro e w' ⟨rfl, rfl⟩; rw [← HKK.out])
    | (go_at_call 25; rw [← HW1.out]; (with_reducible refine (pr_shut_w P1.out).mono ?_); rintro e w2 ⟨rfl, p2⟩; have P2 := Lib.hid p2; clear p2)
    | (go_at_call 69; (with_reducible refine (pr_shut_r P2.out).mono ?_); rintro e w3 ⟨rfl, S3, p3⟩; have P3 := Lib.hid p3; clear p3)
    | fail)
  go_ret
  exact ⟨rfl, S3, _, P3.out, HF.out.shut⟩
set_option maxHeartbeats 16000000 in
set_option maxRecDepth 100000 in
theorem do_low_raw (h : Pair w0 w S g gx x x) (hf : Fine x) (ok oi ot on om oa : Int) (A6 : Option Addr) (n6 c6 : Nat) (A7 : Option Addr) (n7 c7 : Nat) (rows : List Row) (chs : List Chg) (s6 : IsSl rowRep w0 (· < w0.heap.size) A6 n6 rows) (s7 : IsSl chgRep w0 (· < w0.heap.size) A7 n7 chs) (hm6 : n6 ≤ maxLen) (hc6 : n6 ≤ c6) (hraw : modOf on 13 = 12) (hk : ¬ modOf ok 12 < 4 ∧ ¬ modOf ok 12 = 4 ∧ modOf ok 12 < 7) :
    Calls Try.prog 36 #[.pointer (some ⟨g, 0, none⟩), .pointer (some ⟨gx, 0, none⟩), .agg #[.int .i64 ok, .int .i64 oi, .int .i64 ot, .int .i64 on, .int .i64 om, .int .i64 oa, .slice A6 n6 c6, .slice A7 n7 c7]] w (DoPost w0 g gx) := by
  unfold DoPost
  obtain ⟨mk, hmk⟩ : ∃ mk, mk = modOf om 3 := ⟨_, rfl⟩
  obtain ⟨rn, hrn⟩ : ∃ rn, rn = modOf on 13 := ⟨_, rfl⟩
  obtain ⟨kk, hkk⟩ : ∃ kk, kk = modOf ok 12 := ⟨_, rfl⟩
  have hmr := modOf_range om 3 (by omega)
  rw [← hmk] at hmr
  obtain ⟨hm0, hm1⟩ := hmr
  rw [← hrn] at hraw
  rw [← hkk] at hk
  have HMK := Lib.hid hmk
  have HRN := Lib.hid hrn
  have HKK := Lib.hid hkk
  obtain ⟨W1, hW1⟩ : ∃ W1, W1 = w.alloc (.cells #[.int .i64 ok, .int .i64 oi, .int .i64 ot, .int .i64 on, .int .i64 om, .int .i64 oa, .slice A6 n6 c6, .slice A7 n7 c7] 64) := ⟨_, rfl⟩
  have B1 := Lib.hid (show Below w.heap.size w W1 by rw [hW1]; exact (Below.refl _ _).alloc (Nat.le_refl _) _)
  have K1 := Lib.hid (show Blk W1 w.heap.size [.int .i64 ok, .int .i64 oi, .int .i64 ot, .int .i64 on, .int .i64 om, .int .i64 oa, .slice A6 n6 c6, .slice A7 n7 c7] by rw [hW1]; exact Blk.new rfl rfl)
  have HW1 := Lib.hid hW1
  obtain ⟨S1, hS1⟩ : ∃ S1, S1 = (fun k => S k ∨ (w.heap.size ≤ k ∧ k < W1.heap.size)) := ⟨_, rfl⟩
  have P1 := Lib.hid (show Pair w0 W1 S1 g gx x x by rw [hS1]; exact h.below B1.out)
  have HF := Lib.hid hf
  have S6 := Lib.hid s6
  have S7 := Lib.hid s7
  have drw : (rn == 12) = true := by simpa using hraw
  have drwd : decide (rn = 12) = true := by exact decide_eq_true hraw
  have q0 := K1.out.1 0 _ rfl
  have q1 := K1.out.1 1 _ rfl
  have q2 := K1.out.1 2 _ rfl
  have q3 := K1.out.1 3 _ rfl
  have q4 := K1.out.1 4 _ rfl
  have q5 := K1.out.1 5 _ rfl
  have q6 := K1.out.1 6 _ rfl
  have q7 := K1.out.1 7 _ rfl
  have hWs : w.heap.size < W1.heap.size := K1.out.lt
  clear hmk hrn hkk hW1 hS1 h hf s6 s7
  have dk2 : decide (kk < 2) = false := decide_eq_false (by omega)
  have dk4 : decide (kk < 4) = false := decide_eq_false (by omega)
  have ek4 : (kk == 4) = false := by simpa using (show ¬ kk = 4 by omega)
  have ek4d : decide (kk = 4) = false := decide_eq_false (by omega)
  have dk7 : decide (kk < 7) = true := decide_eq_true (by omega)
  clear hraw hk
  go_enter Try.func36, Try.ntmps36
  go_wp2_with (first
    | (go_at_call 19; (with_reducible refine (big_any om 3 _ (by omega) (by omega)).mono ?_); rintro e w' ⟨rfl, rfl⟩; rw [← HMK.out])
    | (go_at_call 15; (with_reducible refine (mod_any on 13 _ (by omega) (by omega)).mono ?_); rintro e w' ⟨rfl, rfl⟩; rw [← HRN.out])
    | (go_at_call 15; (with_reducible refine (mod_any ok 12 _ (by omega) (by omega)).mono ?_); rintro e w' ⟨rfl, rfl⟩; rw [← HKK.out])
    | (go_at_call 26; rw [← HW1.out]; (with_reducible refine (pr_low_w P1.out om).mono ?_); rintro e w2 ⟨rfl, p2⟩; have P2 := Lib.hid p2; clear p2)
    | (go_at_call 70; (with_reducible refine (pr_low_r P2.out om).mono ?_); rintro e w3 ⟨rfl, S3, p3⟩; have P3 := Lib.hid p3; clear p3)
    | fail)
  go_ret
  exact ⟨rfl, S3, _, P3.out, HF.out.low _⟩
end
end Go.Proofs.Ytojjeogpggielaa
