/- Contracts: the window's High, whole; the law's awake. -/
import Derived.Test.YtojjeogpggielaaWin7
set_option linter.unusedVariables false
set_option linter.unusedSimpArgs false
namespace Go.Proofs.Ytojjeogpggielaa
open Go.RowKit

theorem winhigh_any (g : Nat) (S : Nat → Prop) (x : Win) (mark lsn : Int) (w : World) (hS : ∀ k, S k → k < w.heap.size) (h : WinOwn w S g x) (hn : x.rows.length ≤ 100000) (hi : I64 x.id) (ht : I64 x.table) (hc : I64 x.cursor) :
    Calls Try.prog 28 #[.pointer (some ⟨g, 0, none⟩), .int .i64 mark, .int .i64 lsn] w fun e w' => ∃ A n c A2 n2 c2, e = .returned (.tuple #[.agg #[.int .i64 (x.tell mark lsn).lsn, .slice A n c, .slice A2 n2 c2], .bool (x.highOk mark lsn)]) ∧ IsSl oprRep w' (fun k => w.heap.size ≤ k ∧ k < w'.heap.size) A n (x.tell mark lsn).ops ∧ IsSl noteRep w' (fun k => w.heap.size ≤ k ∧ k < w'.heap.size) A2 n2 (x.tell mark lsn).notes ∧ WinOwn w' S g (x.told mark lsn) ∧ Rest S w w' := by
  by_cases hk : x.highOk mark lsn = true
  · refine (winhigh_ok g S x mark lsn w hS h hk hn hi ht hc).mono ?_
    rintro e w' ⟨v, rfl, ⟨A, n, c, A2, n2, c2, rfl, s1, s2⟩, own, rest⟩
    exact ⟨A, n, c, A2, n2, c2, by rw [hk], s1, s2, by unfold Win.told; rw [if_pos hk]; exact own, rest⟩
  · have hf : x.highOk mark lsn = false := by simpa using hk
    refine (winhigh_no g S x mark lsn w hS h hf).mono ?_
    rintro e w' ⟨rfl, bel⟩
    have ht : x.tell mark lsn = ⟨0, [], []⟩ := if_neg hk
    rw [ht]
    exact ⟨none, 0, 0, none, 0, 0, by rw [hf], IsSl.nil, IsSl.nil, by unfold Win.told; rw [if_neg hk]; exact h.below bel, (Rest.refl S w).below hS bel⟩

theorem WinOwn.lt {w : World} {S : Nat → Prop} {g : Nat} {x : Win} (h : WinOwn w S g x) : g < w.heap.size := by obtain ⟨_, h⟩ := h; exact h.lt
theorem WinOwn.ng {w : World} {S : Nat → Prop} {g : Nat} {x : Win} (h : WinOwn w S g x) : ¬ S g := by obtain ⟨_, h⟩ := h; exact h.ng
theorem WinOwn.less {w : World} {S S' : Nat → Prop} {g : Nat} {x : Win} (h : WinOwn w S g x) (hS : ∀ k, S' k → S k) : WinOwn w S' g x := h.sets (fun hk => h.ng (hS _ hk)) (fun k hk => .inl (hS k hk))
/-- What came behind the window's last step is not the window's. -/
theorem WinOwn.step {w w2 : World} {S : Nat → Prop} {g : Nat} {x : Win} (h : WinOwn w S g x) (hb : Below w.heap.size w w2) : WinOwn w2 (fun k => S k ∨ (w.heap.size ≤ k ∧ k < w2.heap.size)) g x :=
  (h.sets (S' := fun k => S k ∨ (w.heap.size ≤ k ∧ k < w2.heap.size)) (fun hk => hk.elim h.ng (fun e => Nat.lt_irrefl _ (Nat.lt_of_lt_of_le h.lt e.1))) (fun k hk => hk.imp id (fun e => e.1))).below hb
theorem WinOwn.drew {w : World} {S : Nat → Prop} {g : Nat} {x : Win} (h : WinOwn w S g x) : WinOwn w.drew S g x := by obtain ⟨rv, h⟩ := h; exact ⟨rv, h.drew⟩

theorem IsSl.newFlat {α : Type} {size : Nat} {pos : 0 < size} {enc : α → List Value} {wf : α → Prop} {hl : ∀ a, (enc a).length = size} {h1 : ∀ a, ∀ u ∈ enc a, u.oneCell' = true} {w : World} {S : Nat → Prop} {t : TypeId} (l : List α) (hw : ∀ x ∈ l, wf x) {cs : Array Value} (hcs : cs = ((l.map enc).flatten).toArray) {n : Nat} (hn : n = l.length) (hS : S w.heap.size) :
    IsSl (Rep.flat size pos enc wf hl h1) (w.alloc (.cells cs t)) S (some ⟨w.heap.size, 0, none⟩) n l := by
  subst hcs
  refine ⟨hn, l.map enc, ⟨by simp, fun k a cs ha hc => ?_⟩, fun _ => ⟨_, 0, rfl, hS, fun j u hu => ?_⟩⟩
  · rw [List.getElem?_map, ha] at hc
    exact ⟨(Option.some.inj hc).symm, hw a (List.mem_of_getElem? ha)⟩
  · rw [Nat.zero_add, World.cell?_alloc_at _ _ _ _ rfl]
    simpa using hu

def strA : ByteArray := ⟨#[97]⟩
def strB : ByteArray := ⟨#[98]⟩

set_option maxHeartbeats 8000000 in
set_option maxRecDepth 100000 in
theorem awake26_any (w : World) : Calls Try.prog 30 #[] w fun e w' => e = .returned (.bool true) ∧ Below w.heap.size w w' := by
  have X2 := Lib.hid (show (win0 2).openOk 7 1 0 0 = true ∧ (win0 2).opened 7 1 0 0 = ⟨7, 0, 1, 0, [], 0, false, 2, 1⟩ by constructor <;> kernel_rfl)
  have X3 := Lib.hid (show (⟨7, 0, 1, 0, [], 0, false, 2, 1⟩ : Win).fillOk [⟨3, ⟨#[97]⟩⟩, ⟨5, ⟨#[98]⟩⟩] = true ∧ (⟨7, 0, 1, 0, [], 0, false, 2, 1⟩ : Win).filled [⟨3, ⟨#[97]⟩⟩, ⟨5, ⟨#[98]⟩⟩] = ⟨7, 0, 1, 0, [⟨3, ⟨#[97]⟩⟩, ⟨5, ⟨#[98]⟩⟩], 5, false, 2, 2⟩ by constructor <;> kernel_rfl)
  have X4 := Lib.hid (show (⟨7, 0, 1, 0, [⟨3, ⟨#[97]⟩⟩, ⟨5, ⟨#[98]⟩⟩], 5, false, 2, 2⟩ : Win).shut = ⟨7, 0, 1, 0, [⟨3, ⟨#[97]⟩⟩, ⟨5, ⟨#[98]⟩⟩], 5, false, 2, 3⟩ by rfl)
  have X5 := Lib.hid (show (⟨7, 0, 1, 0, [⟨3, ⟨#[97]⟩⟩, ⟨5, ⟨#[98]⟩⟩], 5, false, 2, 3⟩ : Win).low 7 = ⟨7, 0, 1, 0, [⟨3, ⟨#[97]⟩⟩, ⟨5, ⟨#[98]⟩⟩], 5, false, 2, 4⟩ by rfl)
  have X6 := Lib.hid (show (⟨7, 0, 1, 0, [⟨3, ⟨#[97]⟩⟩, ⟨5, ⟨#[98]⟩⟩], 5, false, 2, 4⟩ : Win).saw [⟨0, 3, true, ⟨#[]⟩⟩] = 1 ∧ (⟨7, 0, 1, 0, [⟨3, ⟨#[97]⟩⟩, ⟨5, ⟨#[98]⟩⟩], 5, false, 2, 4⟩ : Win).see [⟨0, 3, true, ⟨#[]⟩⟩] = ⟨7, 0, 1, 0, [⟨5, ⟨#[98]⟩⟩], 5, false, 2, 4⟩ by constructor <;> kernel_rfl)
  have X7 := Lib.hid (show (⟨7, 0, 1, 0, [⟨5, ⟨#[98]⟩⟩], 5, false, 2, 4⟩ : Win).highOk 7 9 = true ∧ (⟨7, 0, 1, 0, [⟨5, ⟨#[98]⟩⟩], 5, false, 2, 4⟩ : Win).tell 7 9 = ⟨9, [⟨9, 0, 5, false, ⟨#[98]⟩⟩], [⟨2, 1, 0, 0, 0, 5, false⟩]⟩ ∧ (⟨7, 0, 1, 0, [⟨5, ⟨#[98]⟩⟩], 5, false, 2, 4⟩ : Win).told 7 9 = win0 2 by refine ⟨?_, ?_, ?_⟩ <;> kernel_rfl)
  have HI := Lib.hid (show I64 1 ∧ I64 0 ∧ I64 5 from ⟨⟨by decide, by decide⟩, ⟨by decide, by decide⟩, ⟨by decide, by decide⟩⟩)
  have HW2 : Hid (∀ w0 : World, IsSl rowRep (w0.alloc (.cells #[.int .i64 3, .string ⟨#[97]⟩, .int .i64 5, .string ⟨#[98]⟩] 55)) (· = w0.heap.size) (some ⟨w0.heap.size, 0, none⟩) 2 [⟨3, ⟨#[97]⟩⟩, ⟨5, ⟨#[98]⟩⟩]) := Lib.hid (fun w0 => IsSl.newFlat (enc := Row.cells) [⟨3, ⟨#[97]⟩⟩, ⟨5, ⟨#[98]⟩⟩] (by intro x hx; simp at hx; rcases hx with rfl | rfl <;> (refine ⟨by constructor <;> decide, by decide⟩)) rfl rfl rfl)
  have HC1 : Hid (∀ w0 : World, IsSl chgRep (w0.alloc (.cells #[.int .i64 0, .int .i64 3, .bool true, .string ⟨#[]⟩] 53)) (· = w0.heap.size) (some ⟨w0.heap.size, 0, none⟩) 1 [⟨0, 3, true, ⟨#[]⟩⟩]) := Lib.hid (fun w0 => IsSl.newFlat (enc := Chg.cells) [⟨0, 3, true, ⟨#[]⟩⟩] (by intro x hx; simp at hx; subst hx; exact ⟨by constructor <;> decide, by constructor <;> decide, by decide⟩) rfl rfl rfl)
  obtain ⟨g, hg⟩ : ∃ g, g = w.heap.size := ⟨_, rfl⟩
  have HG := Lib.hid hg
  clear hg
  go_enter Try.func30, Try.ntmps30
  go_wp2_with (first
    | (go_at_call 16; (with_reducible refine (winnew_ok 2 w (by omega) (by omega) (· < w.heap.size) (fun _ h => h)).mono ?_); rintro e w1 ⟨rfl, own1, bel1⟩; have R1 := Lib.hid (show Rest (· < g) w w1 by rw [HG.out]; exact (Rest.refl (· < w.heap.size) w).below (fun _ h => h) bel1); rw [← HG.out] at own1 ⊢; have O1 := Lib.hid own1; have hS1 : ∀ k, k < g → k < w1.heap.size := (fun k hk => Nat.lt_trans hk own1.lt); clear own1 bel1)
    | (go_at_call 16; (with_reducible refine (winnew_no 0 w1 (by omega)).mono ?_); rintro e w1' ⟨rfl, rfl⟩)
    | (go_at_call 21; (with_reducible refine (winopen_any g (· < g) (win0 2) 7 1 0 0 w1 hS1 O1.out).mono ?_); rintro e w2 ⟨rfl, own2, rest2⟩; rw [X2.out.1]; rw [X2.out.2] at own2; have O2 := Lib.hid (own2.step ((Below.refl _ _).alloc (Nat.le_refl _) (.cells #[.int .i64 3, .string ⟨#[97]⟩, .int .i64 5, .string ⟨#[98]⟩] 55))); have R2 := Lib.hid (R1.out.trans rest2); have hS2 : ∀ k, k < g → k < w2.heap.size := (fun k hk => Nat.lt_of_lt_of_le (hS1 k hk) rest2.size); clear own2 rest2)
    | (go_at_call 24; (with_reducible refine (winfill_any g _ ⟨7, 0, 1, 0, [], 0, false, 2, 1⟩ _ 2 2 [⟨3, ⟨#[97]⟩⟩, ⟨5, ⟨#[98]⟩⟩] _ (by rintro k (hk | hk); (have := hS2 k hk; simp; omega); exact hk.2) O2.out (· = w2.heap.size) (by intro k hk; right; simp; omega) (HW2.out w2) (by decide) (by decide)).mono ?_); rintro e w3 ⟨rfl, own3, rest3⟩; rw [X3.out.1]; rw [X3.out.2] at own3; have O3 := Lib.hid (own3.less (S' := (· < g)) (fun _ hk => .inl hk)); have R3 := Lib.hid ((R2.out.below hS2 ((Below.refl _ _).alloc (Nat.le_refl _) _)).trans (rest3.less (fun _ hk => .inl hk))); have hS3 : ∀ k, k < g → k < w3.heap.size := (fun k hk => (by have h1 := hS2 k hk; have h2 := rest3.size; simp at h2; omega)); clear own3 rest3)
    | (go_at_call 25; (with_reducible refine (winshut_any g (· < g) ⟨7, 0, 1, 0, [⟨3, ⟨#[97]⟩⟩, ⟨5, ⟨#[98]⟩⟩], 5, false, 2, 2⟩ w3 O3.out).mono ?_); rintro e w4 ⟨rfl, own4, rest4⟩; rw [X4.out] at own4; rw [decide_eq_true (p := (2 : Int) = 2) rfl]; have O4 := Lib.hid own4; have R4 := Lib.hid (R3.out.trans rest4); have hS4 : ∀ k, k < g → k < w4.heap.size := (fun k hk => Nat.lt_of_lt_of_le (hS3 k hk) rest4.size); clear own4 rest4)
    | (go_at_call 26; (with_reducible refine (winlow_any g (· < g) ⟨7, 0, 1, 0, [⟨3, ⟨#[97]⟩⟩, ⟨5, ⟨#[98]⟩⟩], 5, false, 2, 3⟩ 7 w4 O4.out).mono ?_); rintro e w5 ⟨rfl, own5, rest5⟩; rw [X5.out] at own5; rw [decide_eq_true (p := (3 : Int) = 3 ∧ (7 : Int) = 7) ⟨rfl, rfl⟩]; have O5 := Lib.hid (own5.step ((Below.refl _ _).alloc (Nat.le_refl _) (.cells #[.int .i64 0, .int .i64 3, .bool true, .string ⟨#[]⟩] 53))); have R5 := Lib.hid (R4.out.trans rest5); have hS5 : ∀ k, k < g → k < w5.heap.size := (fun k hk => Nat.lt_of_lt_of_le (hS4 k hk) rest5.size); clear own5 rest5)
    | (go_at_call 27; (with_reducible refine (winsee_any g _ ⟨7, 0, 1, 0, [⟨3, ⟨#[97]⟩⟩, ⟨5, ⟨#[98]⟩⟩], 5, false, 2, 4⟩ _ 1 1 [⟨0, 3, true, ⟨#[]⟩⟩] _ (by rintro k (hk | hk); (have := hS5 k hk; simp; omega); exact hk.2) O5.out (· = w5.heap.size) (by intro k hk; right; simp; omega) (HC1.out w5) (by decide) (by decide)).mono ?_); rintro e w6 ⟨rfl, own6, rest6⟩; rw [X6.out.1]; rw [X6.out.2] at own6; have O6 := Lib.hid (own6.less (S' := (· < g)) (fun _ hk => .inl hk)); have R6 := Lib.hid ((R5.out.below hS5 ((Below.refl _ _).alloc (Nat.le_refl _) _)).trans (rest6.less (fun _ hk => .inl hk))); have hS6 : ∀ k, k < g → k < w6.heap.size := (fun k hk => (by have h1 := hS5 k hk; have h2 := rest6.size; simp at h2; omega)); clear own6 rest6)
    | (go_at_call 28; (with_reducible refine (winhigh_any g (· < g) ⟨7, 0, 1, 0, [⟨5, ⟨#[98]⟩⟩], 5, false, 2, 4⟩ 7 9 w6 hS6 O6.out (by decide) HI.out.1 HI.out.2.1 HI.out.2.2).mono ?_); rintro e w7 ⟨A7, n7, c7, B7, m7, d7, rfl, so7, sn7, own7, rest7⟩; rw [X7.out.1]; rw [X7.out.2.1] at so7 sn7 ⊢; rw [X7.out.2.2] at own7; obtain rfl : n7 = 1 := so7.len; obtain rfl : m7 = 1 := sn7.len; obtain ⟨b7, o7, y7, cs7, rfl, ⟨-, hb7⟩, hy7, ⟨rfl, -⟩, hc7⟩ := so7.at_ (k := 0) (by omega); obtain ⟨b8, o8, y8, cs8, rfl, ⟨-, hb8⟩, hy8, ⟨rfl, -⟩, hc8⟩ := sn7.at_ (k := 0) (by omega); (obtain rfl := (Option.some.inj hy7).symm); (obtain rfl := (Option.some.inj hy8).symm); have f0 := hc7 0 _ rfl; have f1 := hc7 1 _ rfl; have f2 := hc7 2 _ rfl; have f3 := hc7 3 _ rfl; have f4 := hc7 4 _ rfl; have h0 := hc8 0 _ rfl; have h1 := hc8 1 _ rfl; have h2 := hc8 2 _ rfl; have h3 := hc8 3 _ rfl; have h4 := hc8 4 _ rfl; have h5 := hc8 5 _ rfl; have h6 := hc8 6 _ rfl; (simp only [Nat.zero_mul, Nat.add_zero] at f0 f1 f2 f3 f4 h0 h1 h2 h3 h4 h5 h6); have O7 := Lib.hid own7; have R7 := Lib.hid (R6.out.trans rest7); have hS7 : ∀ k, k < g → k < w7.heap.size := (fun k hk => Nat.lt_of_lt_of_le (hS6 k hk) rest7.size); clear own7 rest7 so7 sn7 hc7 hc8 hy7 hy8)
    | (go_at_call 31; (with_reducible refine (winState_any g (· < g) (win0 2) _ (O7.out.below ((Below.refl _ _).alloc (Nat.le_refl _) _))).mono ?_); rintro e w8 ⟨rfl, rfl⟩)
    | fail)
  go_ret
  exact ⟨rfl, (R7.out.toBelow (fun k hk => by rw [HG.out]; exact hk)).alloc (Nat.le_of_lt (by rw [← HG.out]; exact O7.out.lt)) _⟩
end Go.Proofs.Ytojjeogpggielaa
