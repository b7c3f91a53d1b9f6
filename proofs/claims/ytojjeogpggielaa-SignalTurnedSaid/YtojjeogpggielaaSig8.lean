/- The walk of SignalTurned. -/
import Derived.Test.YtojjeogpggielaaSig7
import Derived.Deep.RegionHeld3
import Derived.Deep.DeepCutAuto
import Derived.BigRegion
import Derived.IntWalk
set_option linter.unusedVariables false
set_option linter.unusedSimpArgs false
namespace Go.Proofs.Ytojjeogpggielaa
open Go.RowKit

theorem one_str (x : UInt8) (W : World) : (convert 84 9 (.slice (some ⟨W.heap.size, 0, none⟩) 1 1)).run Try.prog (W.alloc (.cells #[.int .u8 (x.toNat : Int)] 5)) = .ok (.string ⟨#[x]⟩) (W.alloc (.cells #[.int .u8 (x.toNat : Int)] 5)) :=
  run_str_of (P := Try.prog) (c := 1) 84 9 5 Try.underlying84 Try.underlying5 Try.underlying9 (IsSl.newBytes (S := fun _ => True) (t := 5) (w := W) [x] rfl (n := 1) rfl trivial)

theorem bytes_cells (s : ByteArray) (c : Nat) (W : World) {W2 : World} (h : W2 = (W.drew.alloc (.cells (bytesRow s c) 5 ((bytesRow s c).size, (bytesRow s c).size + 1)))) (k : Nat) (hk : k < s.size) :
    W2.cell? ⟨W.heap.size, k, none⟩ = some (.int .u8 ((s[k]).toNat : Int)) ∧ W2.frozen? ⟨W.heap.size, k, none⟩ = false := by
  have hh : W2.heap[W.heap.size]? = some (.cells (bytesRow s c) 5 ((bytesRow s c).size, (bytesRow s c).size + 1)) := by rw [h]; exact heap_alloc_new W.drew _
  have hd : s.data.size = s.size := rfl
  have hks : k < (bytesRow s c).size := by simp [bytesRow, hd]; omega
  have hkd : k < (s.data.map (fun b => Value.int .u8 b.toNat)).size := by simp [hd, hk]
  refine ⟨?_, ?_⟩
  · rw [cell_of_row W2 _ k _ _ _ hh]
    unfold bytesRow
    rw [Array.getElem?_append_left hkd, Array.getElem?_map, Array.getElem?_eq_getElem (by rw [hd]; exact hk)]
    rfl
  · simp [World.frozen?, hh]
    omega

/-- A slice of bytes that reads as a text. -/
def StrAt (g n c : Nat) (L : List UInt8) (w : World) : Prop := g < w.heap.size ∧ n = L.length ∧ ∀ j (hj : j < L.length), w.cell? ⟨g, j, none⟩ = some (.int .u8 (L[j].toNat : Int))

def ConvAt (g n c : Nat) (L : List UInt8) (w : World) : Prop := (convert 84 9 (.slice (some ⟨g, 0, none⟩) n c)).run Try.prog w = .ok (.string ⟨L.toArray⟩) w

theorem StrAt.conv {g n c : Nat} {L : List UInt8} {w : World} (h : StrAt g n c L w) : ConvAt g n c L w := by
  obtain ⟨h1, rfl, h3⟩ := h
  exact run_convert_bytes_back (P := Try.prog) w 84 9 5 ⟨g, 0, none⟩ c L Try.underlying84 Try.underlying5 Try.underlying9 (fun j hj => by rw [add_none, Nat.zero_add]; exact h3 j hj)

theorem StrAt.keep {g n c : Nat} {L : List UInt8} {w w' : World} (h : StrAt g n c L w) (hb : Below w.heap.size w w') : StrAt g n c L w' :=
  ⟨Nat.lt_of_lt_of_le h.1 hb.size, h.2.1, fun j hj => (hb.cell (p := ⟨g, j, none⟩) h.1).trans (h.2.2 j hj)⟩

theorem StrAt.step {g n c : Nat} {L : List UInt8} {w : World} {o : Obj} (h : (convert 84 9 (.slice (some ⟨g, 0, none⟩) n c)).run Try.prog w = .ok (.string ⟨L.toArray⟩) w ∧ StrAt g n c L w) :
    (convert 84 9 (.slice (some ⟨g, 0, none⟩) n c)).run Try.prog (w.alloc o) = .ok (.string ⟨L.toArray⟩) (w.alloc o) ∧ StrAt g n c L (w.alloc o) :=
  have h2 := h.2.keep ((Below.refl _ _).alloc (Nat.le_refl _) o)
  ⟨h2.conv, h2⟩

theorem StrAt.stepd {g n c : Nat} {L : List UInt8} {w : World} {o : Obj} (h : (convert 84 9 (.slice (some ⟨g, 0, none⟩) n c)).run Try.prog w.drew = .ok (.string ⟨L.toArray⟩) w.drew ∧ StrAt g n c L w.drew) :
    (convert 84 9 (.slice (some ⟨g, 0, none⟩) n c)).run Try.prog (w.alloc o).drew = .ok (.string ⟨L.toArray⟩) (w.alloc o).drew ∧ StrAt g n c L (w.alloc o).drew := StrAt.step (w := w.drew) (o := o) h

theorem StrAt.start {g n c : Nat} {L : List UInt8} {w : World} (h : StrAt g n c L w) :
    (convert 84 9 (.slice (some ⟨g, 0, none⟩) n c)).run Try.prog w.drew = .ok (.string ⟨L.toArray⟩) w.drew ∧ StrAt g n c L w.drew :=
  have h2 : StrAt g n c L w.drew := h
  ⟨h2.conv, h2⟩

theorem one_str2 (x : UInt8) (W : World) (o : Obj) : (convert 84 9 (.slice (some ⟨W.heap.size, 0, none⟩) 1 1)).run Try.prog ((W.alloc (.cells #[.int .u8 (x.toNat : Int)] 5)).alloc o) = .ok (.string ⟨#[x]⟩) ((W.alloc (.cells #[.int .u8 (x.toNat : Int)] 5)).alloc o) :=
  have h : StrAt W.heap.size 1 1 [x] (W.alloc (.cells #[.int .u8 (x.toNat : Int)] 5)) := ⟨by simp, rfl, fun j hj => by
    obtain rfl : j = 0 := by simp at hj; exact hj
    exact World.cell?_alloc_at _ _ _ _ rfl⟩
  (h.keep ((Below.refl _ _).alloc (Nat.le_refl _) o)).conv

theorem one_str3 (x : UInt8) (W : World) (o : Obj) : (convert 84 9 (.slice (some ⟨W.heap.size + 1, 0, none⟩) 1 1)).run Try.prog ((W.alloc o).alloc (.cells #[.int .u8 (x.toNat : Int)] 5)) = .ok (.string ⟨#[x]⟩) ((W.alloc o).alloc (.cells #[.int .u8 (x.toNat : Int)] 5)) := by
  have h := one_str x (W.alloc o)
  rw [show (W.alloc o).heap.size = W.heap.size + 1 by simp] at h
  exact h

theorem one_strd (x : UInt8) (W : World) : (convert 84 9 (.slice (some ⟨W.heap.size, 0, none⟩) 1 1)).run Try.prog (W.alloc (.cells #[.int .u8 (x.toNat : Int)] 5)).drew = .ok (.string ⟨#[x]⟩) (W.alloc (.cells #[.int .u8 (x.toNat : Int)] 5)).drew := one_str x W.drew

theorem one_str2d (x : UInt8) (W : World) (o : Obj) : (convert 84 9 (.slice (some ⟨W.heap.size, 0, none⟩) 1 1)).run Try.prog ((W.alloc (.cells #[.int .u8 (x.toNat : Int)] 5)).alloc o).drew = .ok (.string ⟨#[x]⟩) ((W.alloc (.cells #[.int .u8 (x.toNat : Int)] 5)).alloc o).drew := one_str2 x W.drew o

theorem one_str3d (x : UInt8) (W : World) (o : Obj) : (convert 84 9 (.slice (some ⟨W.heap.size + 1, 0, none⟩) 1 1)).run Try.prog ((W.alloc o).alloc (.cells #[.int .u8 (x.toNat : Int)] 5)).drew = .ok (.string ⟨#[x]⟩) ((W.alloc o).alloc (.cells #[.int .u8 (x.toNat : Int)] 5)).drew := by
  have h := one_strd x (W.alloc o)
  rw [show (W.alloc o).heap.size = W.heap.size + 1 by simp] at h
  exact h

theorem StrAt.set {g c k : Nat} {s : ByteArray} {w : World} {y : UInt8} (hg : g < w.heap.size) (hk : k < s.size) (hc : ∀ j (hj : j < s.size), w.cell? ⟨g, j, none⟩ = some (.int .u8 ((s[j]).toNat : Int)) ∧ w.frozen? ⟨g, j, none⟩ = false) {n : Nat} (hn : n = s.size) :
    StrAt g n c (s.data.toList.set k (s[k] + y)) (w.setCell ⟨g, k, none⟩ (.int .u8 (((s[k]).toNat + y.toNat : Int) % 256))) := by
  have hl : s.data.toList.length = s.size := (Lib.size_eq s).symm
  refine ⟨by simpa using hg, by rw [List.length_set, hl]; exact hn, fun j hj => ?_⟩
  rw [List.length_set, hl] at hj
  rw [List.getElem_set]
  obtain ⟨hcj, _⟩ := hc j hj
  obtain ⟨hck, _⟩ := hc k hk
  by_cases hjk : k = j
  · subst hjk
    rw [if_pos rfl]
    have hz : (((s[k] + y).toNat : Nat) : Int) = (((s[k]).toNat + y.toNat : Int) % 256) := by rw [UInt8.toNat_add]; omega
    rw [hz]
    simp [go_sem, hck]
  · rw [if_neg hjk]
    have hne : (⟨g, j, none⟩ : Addr) ≠ ⟨g, k, none⟩ := by intro h; injection h with _ h2 _; exact hjk h2.symm
    rw [show s.data.toList[j] = s[j] from rfl]
    rw [← hcj]
    simp [go_sem]

/-- Six texts in a block. -/
def SixStr (w : World) (v : Value) (wx : World) : Prop := ∃ g, v = .slice (some ⟨g, 0, none⟩) 6 6 ∧ g < wx.heap.size ∧ Below w.heap.size w wx ∧ ∀ p, p < 6 → ∃ x : ByteArray, wx.cell? ⟨g, p, none⟩ = some (.string x) ∧ x.size ≤ maxLen

theorem sixStr_of {w W3 : World} {t : TypeId} (bel : Below w.heap.size w W3) (o1 o2 : Obj) (a b c d e f : ByteArray) (h : a.size ≤ maxLen ∧ b.size ≤ maxLen ∧ c.size ≤ maxLen ∧ d.size ≤ maxLen ∧ e.size ≤ maxLen ∧ f.size ≤ maxLen) :
    SixStr w (.slice (some ⟨W3.heap.size + 1 + 1, 0, none⟩) 6 6) (((W3.alloc o1).alloc o2).alloc (.cells #[.string a, .string b, .string c, .string d, .string e, .string f] t)).drew := by
  have hs := bel.size
  have hz : ((W3.alloc o1).alloc o2).heap.size = W3.heap.size + 1 + 1 := by simp
  refine ⟨_, rfl, by simp, below_drewN (((bel.alloc hs _).alloc (by simp; omega) _).alloc (by simp; omega) _) 1, fun p hp => ?_⟩
  obtain ⟨ha, hb, hc, hd, he, hf⟩ := h
  rw [← hz]
  have : p = 0 ∨ p = 1 ∨ p = 2 ∨ p = 3 ∨ p = 4 ∨ p = 5 := by omega
  rcases this with rfl | rfl | rfl | rfl | rfl | rfl
  · exact ⟨a, World.cell?_alloc_at _ _ _ _ rfl, ha⟩
  · exact ⟨b, World.cell?_alloc_at _ _ _ _ rfl, hb⟩
  · exact ⟨c, World.cell?_alloc_at _ _ _ _ rfl, hc⟩
  · exact ⟨d, World.cell?_alloc_at _ _ _ _ rfl, hd⟩
  · exact ⟨e, World.cell?_alloc_at _ _ _ _ rfl, he⟩
  · exact ⟨f, World.cell?_alloc_at _ _ _ _ rfl, hf⟩

theorem six_sizes (s : ByteArray) (k n : Nat) (y : UInt8) (L : List UInt8) (hs : s.size = n) (hn : n ≤ 12) (hk : k < n) (hL : L.length = n) :
    s.size ≤ maxLen ∧ (⟨L.toArray⟩ : ByteArray).size ≤ maxLen ∧ (s.extract 0 k ++ s.extract (k + 1) n).size ≤ maxLen ∧ (s.extract 0 k ++ ⟨#[y]⟩ ++ s.extract k n).size ≤ maxLen ∧ (s ++ ⟨#[32]⟩ : ByteArray).size ≤ maxLen ∧ (s ++ ⟨#[y]⟩ : ByteArray).size ≤ maxLen := by
  have h1 : ∀ x : UInt8, (⟨#[x]⟩ : ByteArray).size = 1 := fun _ => rfl
  have h2 : (⟨L.toArray⟩ : ByteArray).size = n := by rw [Lib.size_eq]; simpa using hL
  have h3 : 12 + 12 + 1 ≤ maxLen := by unfold maxLen; omega
  simp only [str_app, ByteArray.size_extract, h1, h2, hs]
  refine ⟨?_, ?_, ?_, ?_, ?_, ?_⟩ <;> omega

/-- More may be held from here on. -/
theorem wpAnyH_weaken {P : Program} {md : Region.Mode} {ops : Array Oper} {Q : Exit → Act → World → Prop} {S S' : World → Prop} (hh : ∀ w, S' w → S w) : ∀ (fuel : Nat) (listed : Array Bool) (a : Act) (w : World), wpAnyH P md ops Q S' fuel listed a w → wpAnyH P md ops Q S fuel listed a w
  | 0, _, _, _, h => h
  | fuel + 1, _, _, _, h => ⟨h.1, fun i hi => wpOp_mono (fun a' w' h' => ⟨hh _ h'.1, wpAnyH_weaken hh fuel _ a' w' h'.2⟩) (h.2 i hi)⟩

theorem one_at (y : UInt8) (W : World) : StrAt W.heap.size 1 1 [y] (W.alloc (.cells #[.int .u8 (y.toNat : Int)] 5)) := ⟨by simp, rfl, fun j hj => by
  obtain rfl : j = 0 := by simp at hj; exact hj
  exact World.cell?_alloc_at _ _ _ _ rfl⟩

theorem one_pair (y : UInt8) (W : World) : (convert 84 9 (.slice (some ⟨W.heap.size, 0, none⟩) 1 1)).run Try.prog (W.alloc (.cells #[.int .u8 (y.toNat : Int)] 5)).drew = .ok (.string ⟨#[y]⟩) (W.alloc (.cells #[.int .u8 (y.toNat : Int)] 5)).drew ∧ StrAt W.heap.size 1 1 [y] (W.alloc (.cells #[.int .u8 (y.toNat : Int)] 5)).drew :=
  ⟨(one_at y W.drew).conv, one_at y W.drew⟩

theorem one_pair2 (y : UInt8) (W : World) (o : Obj) : (convert 84 9 (.slice (some ⟨W.heap.size + 1, 0, none⟩) 1 1)).run Try.prog ((W.alloc o).alloc (.cells #[.int .u8 (y.toNat : Int)] 5)).drew = .ok (.string ⟨#[y]⟩) ((W.alloc o).alloc (.cells #[.int .u8 (y.toNat : Int)] 5)).drew ∧ StrAt (W.heap.size + 1) 1 1 [y] ((W.alloc o).alloc (.cells #[.int .u8 (y.toNat : Int)] 5)).drew := by
  have h := one_pair y (W.alloc o)
  rw [show (W.alloc o).heap.size = W.heap.size + 1 by simp] at h
  exact h

set_option maxRecDepth 20000 in
set_option maxHeartbeats 2000000 in
theorem signalTurned_walk (w : World) (t : Int) (ht : I64 t) (g : Int) (hg : I64 g) (at_ : Int) (hat : I64 at_) (y0 : Int) (hy : (Lit.int .u8 y0).wf = true) (long : Bool) :
    Calls Try.prog 9 #[.int .i64 t, .int .i64 g, .int .i64 at_, .int .u8 y0, .bool long] w fun e w' => e = .returned (.bool true) ∧ Below w.heap.size w w' := by
  unfold I64 at ht hg hat
  have hm1 := modOf_range t 8 (by omega)
  have hm2 := modOf_range g 8 (by omega)
  have hs' : 0 ≤ y0 ∧ y0 < 256 := by
    simp [Lit.wf, IntKind.min, IntKind.max, IntKind.bits, IntKind.signed] at hy
    omega
  obtain ⟨y, hy0⟩ : ∃ y : UInt8, y0 = (y.toNat : Int) := ⟨UInt8.ofNat y0.toNat, by rw [UInt8.toNat_ofNat']; omega⟩
  subst hy0
  clear hy hs'
  obtain ⟨c1, hc1⟩ : ∃ c : UInt8, 48 + modOf t 8 = (c.toNat : Int) := ⟨UInt8.ofNat (48 + modOf t 8).toNat, by rw [UInt8.toNat_ofNat']; omega⟩
  obtain ⟨c2, hc2⟩ : ∃ c : UInt8, 49 + modOf g 8 = (c.toNat : Int) := ⟨UInt8.ofNat (49 + modOf g 8).toNat, by rw [UInt8.toNat_ofNat']; omega⟩
  have hk1 := one_str c1
  have hk2 := one_str c2
  have hk3 := one_str y
  have hk6 := one_str3 c2
  cases long
  · go_enter Try.func9, Try.ntmps9
    go_wp2_with (first
      | (go_at_call 15; (with_reducible refine (mod_any _ _ _ (by omega) (by omega)).mono ?_); rintro e w' ⟨rfl, rfl⟩)
      | fail)
    obtain ⟨s, hs⟩ : ∃ s : ByteArray, s = { data := #[115, 110, 97, 112, 115, 104, 111, 116, 32] } ++ { data := #[c1] } := ⟨_, rfl⟩
    have hs1 : s.size = 10 := by rw [hs]; rfl
    rw [← hs]
    have hk := modOf_range at_ 10 (by omega)
    obtain ⟨k, hk0⟩ := Int.eq_ofNat_of_zero_le hk.1
    rw [hk0] at hk ⊢
    obtain ⟨W1, hW1⟩ : ∃ W1, W1 = w.alloc (.cells #[.int .u8 (c1.toNat : Int)] 5) := ⟨_, rfl⟩
    rw [← hW1]
    have bel1 : Below w.heap.size w W1 := by rw [hW1]; exact (Below.refl _ _).alloc (Nat.le_refl _) _
    clear hW1 hs hk0 hc1 hc2 hk1 hk2 hm1 hm2 hk6
    rw [run_bytes_of_string _ _ _ 5 s Try.underlying9 Try.underlying84 Try.underlying5]
    obtain ⟨c, hc⟩ : ∃ c, c = grownCap W1 s.size 0 5 := ⟨_, rfl⟩
    rw [← hc]
    simp only [Result.andThen]
    rw [Oper.upon_value]
    obtain ⟨W2, hW2⟩ : ∃ W2, W2 = (W1.drew.alloc (.cells (bytesRow s c) 5 ((bytesRow s c).size, (bytesRow s c).size + 1))) := ⟨_, rfl⟩
    rw [← hW2]
    have hcells := bytes_cells s c W1 hW2
    have bel2 : Below w.heap.size w W2 := by rw [hW2]; exact (below_drewN bel1 1).alloc bel1.size _
    have hcap : s.size ≤ c := by rw [hc]; exact grownCap_ge _ _ _ _
    have hgs : W2.heap.size = W1.heap.size + 1 := by rw [hW2]; simp
    have hg0 := bel1.size
    obtain ⟨g0, hg0'⟩ : ∃ g0, g0 = W1.heap.size := ⟨_, rfl⟩
    rw [← hg0'] at hcells hgs hg0 ⊢
    clear hW2 hc hg0' bel1
    have hks : k < s.size := by omega
    obtain ⟨x, hx⟩ : ∃ x, x = s[k]'hks := ⟨_, rfl⟩
    obtain ⟨hk1, hk2⟩ := hcells k hks
    rw [← hx] at hk1
    have HX := Lib.hid hx
    have HC := Lib.hid hcells
    have HG := Lib.hid hgs
    have hgs' : g0 < W2.heap.size := by omega
    have HS := Lib.hid hs1
    clear hx hcells hgs
    have SA : StrAt g0 s.size c (s.data.toList.set k (x + y)) (W2.setCell ⟨g0, k, none⟩ (.int .u8 ((x.toNat + y.toNat : Int) % 256))) := by rw [HX.out]; exact StrAt.set hgs' hks HC.out rfl
    rw [hs1] at SA hcap ⊢
    obtain ⟨L, hL⟩ : ∃ L, L = s.data.toList.set k (x + y) := ⟨_, rfl⟩
    rw [← hL] at SA
    have hLl : L.length = 10 := SA.2.1.symm
    have HL := Lib.hid hLl
    clear hL hLl
    go_upto_region 7 with fail
    obtain ⟨W3, hW3⟩ : ∃ W3, W3 = W2.setCell ⟨g0, k, none⟩ (.int .u8 ((x.toNat + y.toNat : Int) % 256)) := ⟨_, rfl⟩
    have bel3 : Below w.heap.size w W3 := by rw [hW3]; exact bel2.setCell hg0 _
    rw [← hW3] at SA ⊢
    clear hk3 hk1 hk2 hW3
    have hq0 : (convert 84 9 (.slice (some ⟨g0, 0, none⟩) 10 c)).run Try.prog W3.drew = .ok (.string ⟨L.toArray⟩) W3.drew := (StrAt.start SA).1
    have hq1 : ∀ o, (convert 84 9 (.slice (some ⟨g0, 0, none⟩) 10 c)).run Try.prog (W3.alloc o).drew = .ok (.string ⟨L.toArray⟩) (W3.alloc o).drew := fun o => (StrAt.stepd (StrAt.start SA)).1
    have hq2 : ∀ o o', (convert 84 9 (.slice (some ⟨g0, 0, none⟩) 10 c)).run Try.prog ((W3.alloc o).alloc o').drew = .ok (.string ⟨L.toArray⟩) ((W3.alloc o).alloc o').drew := fun o o' => (StrAt.stepd (StrAt.stepd (StrAt.start SA))).1
    have hk3 := one_strd y
    have hk4 := one_str2d y
    have hk5 := one_str3d y
    have hkw : IntKind.i64.wrap ((k : Int) + 1) = (k : Int) + 1 := IntWalk.i64_in _ (by omega)
    have hk11 : (k : Int) + 1 ≤ 10 := by omega
    have hk10 : (k : Int) ≤ 10 := by omega
    have hk12 : (0 : Int) ≤ (k : Int) + 1 := by omega
    have hk13 : ((k : Int) + 1).toNat = k + 1 := by omega
    have hk14 : k ≤ 10 := by omega
    have hk15 : ¬ 9223372036854775807 < k + (9 - k) := by omega
    have hk16 : ¬ 9223372036854775807 < k + 1 := by omega
    have hk17 : ¬ 9223372036854775807 < k + 1 + (10 - k) := by omega
    go_cut [79, 80, 81] (fun s79 s80 s81 wx => SixStr w s79 wx ∧ s80 = .int .i64 6 ∧ s81 = .int .i64 0)
    case first =>
      refine wp_region_held_drew (S := fun w' => ((convert 84 9 (.slice (some ⟨g0, 0, none⟩) 10 c)).run Try.prog w' = .ok (.string ⟨L.toArray⟩) w' ∧ StrAt g0 10 c L w')) (by kernel_rfl) (StrAt.start SA) (fun hHeld => ?_)
      (refine wpAnyH_take (i := 0) (v := ?_) rfl (by kernel_rfl) (by kernel_rfl) (by kernel_rfl) (fun _ _ _ h => h) (Or.inl ⟨by rfl, ?_⟩) hHeld ?_; rotate_left 1; focus (intro w hSw; (try dsimp only at hSw); go_simp; try with_reducible rfl)); (try simp only [Act.put, List.setIfInBounds_toArray, List.set_cons_zero, List.set_cons_succ])
      (refine wpAnyH_take (i := 1) (v := ?_) rfl (by kernel_rfl) (by kernel_rfl) (by kernel_rfl) (fun _ _ _ h => h) (Or.inl ⟨by rfl, ?_⟩) hHeld ?_; rotate_left 1; focus (intro w hSw; (try dsimp only at hSw); go_simp; try with_reducible rfl)); (try simp only [Act.put, List.setIfInBounds_toArray, List.set_cons_zero, List.set_cons_succ])
      (refine wpAnyH_take (i := 2) (v := ?_) rfl (by kernel_rfl) (by kernel_rfl) (by kernel_rfl) (fun _ _ _ h => h) (Or.inl ⟨by rfl, ?_⟩) hHeld ?_; rotate_left 1; focus (intro w hSw; (try dsimp only at hSw); go_simp; try with_reducible rfl)); (try simp only [Act.put, List.setIfInBounds_toArray, List.set_cons_zero, List.set_cons_succ])
      (refine wpAnyH_take (i := 3) (v := ?_) rfl (by kernel_rfl) (by kernel_rfl) (by kernel_rfl) (fun _ _ _ h => h) (Or.inl ⟨by rfl, ?_⟩) hHeld ?_; rotate_left 1; focus (intro w hSw; (try dsimp only at hSw); go_simp; try with_reducible rfl)); (try simp only [Act.put, List.setIfInBounds_toArray, List.set_cons_zero, List.set_cons_succ])
      (refine wpAnyH_take (i := 4) (v := ?_) rfl (by kernel_rfl) (by kernel_rfl) (by kernel_rfl) (fun _ _ _ h => h) (Or.inl ⟨by rfl, ?_⟩) hHeld ?_; rotate_left 1; focus (intro w hSw; (try dsimp only at hSw); go_simp; try with_reducible rfl)); (try simp only [Act.put, List.setIfInBounds_toArray, List.set_cons_zero, List.set_cons_succ])
      (refine wpAnyH_take (i := 5) (v := ?_) rfl (by kernel_rfl) (by kernel_rfl) (by kernel_rfl) (fun _ _ _ h => h) (Or.inl ⟨by rfl, ?_⟩) hHeld ?_; rotate_left 1; focus (intro w hSw; (try dsimp only at hSw); go_simp; try with_reducible rfl)); (try simp only [Act.put, List.setIfInBounds_toArray, List.set_cons_zero, List.set_cons_succ])
      (refine wpAnyH_take (i := 6) (v := ?_) rfl (by kernel_rfl) (by kernel_rfl) (by kernel_rfl) (fun _ _ _ h => h) (Or.inl ⟨by rfl, ?_⟩) hHeld ?_; rotate_left 1; focus (intro w hSw; (try dsimp only at hSw); go_simp; try with_reducible rfl)); (try simp only [Act.put, List.setIfInBounds_toArray, List.set_cons_zero, List.set_cons_succ])
      (refine wpAnyH_take (i := 7) (v := ?_) rfl (by kernel_rfl) (by kernel_rfl) (by kernel_rfl) (fun _ _ _ h => h) (Or.inl ⟨by rfl, ?_⟩) hHeld ?_; rotate_left 1; focus (intro w hSw; (try dsimp only at hSw); go_simp; try with_reducible rfl)); (try simp only [Act.put, List.setIfInBounds_toArray, List.set_cons_zero, List.set_cons_succ])
      (refine wpAnyH_take (i := 8) (v := ?_) rfl (by kernel_rfl) (by kernel_rfl) (by kernel_rfl) (fun _ _ _ h => h) (Or.inl ⟨by rfl, ?_⟩) hHeld ?_; rotate_left 1; focus (intro w hSw; (try dsimp only at hSw); go_simp; try with_reducible rfl)); (try simp only [Act.put, List.setIfInBounds_toArray, List.set_cons_zero, List.set_cons_succ])
      (refine wpAnyH_take (i := 9) (v := ?_) rfl (by kernel_rfl) (by kernel_rfl) (by kernel_rfl) (fun _ _ _ h => h) (Or.inl ⟨by rfl, ?_⟩) hHeld ?_; rotate_left 1; focus (intro w hSw; (try dsimp only at hSw); go_simp; try with_reducible rfl)); (try simp only [Act.put, List.setIfInBounds_toArray, List.set_cons_zero, List.set_cons_succ])
      (refine wpAnyH_take (i := 10) (v := ?_) rfl (by kernel_rfl) (by kernel_rfl) (by kernel_rfl) (fun _ _ _ h => h) (Or.inl ⟨by rfl, ?_⟩) hHeld ?_; rotate_left 1; focus (intro w hSw; (try dsimp only at hSw); go_simp; try with_reducible rfl)); (try simp only [Act.put, List.setIfInBounds_toArray, List.set_cons_zero, List.set_cons_succ])
      (refine wpAnyH_take (i := 11) (v := ?_) rfl (by kernel_rfl) (by kernel_rfl) (by kernel_rfl) (fun _ _ _ h => h) (Or.inl ⟨by rfl, ?_⟩) hHeld ?_; rotate_left 1; focus (intro w hSw; (try dsimp only at hSw); go_simp; try with_reducible rfl)); (try simp only [Act.put, List.setIfInBounds_toArray, List.set_cons_zero, List.set_cons_succ])
      (refine wpAnyH_take (i := 12) (v := ?_) rfl (by kernel_rfl) (by kernel_rfl) (by kernel_rfl) (fun _ _ _ h => h) (Or.inl ⟨by rfl, ?_⟩) hHeld ?_; rotate_left 1; focus (intro w hSw; (try dsimp only at hSw); go_simp; try with_reducible rfl)); (try simp only [Act.put, List.setIfInBounds_toArray, List.set_cons_zero, List.set_cons_succ])
      (refine wpAnyH_take (i := 13) (v := ?_) rfl (by kernel_rfl) (by kernel_rfl) (by kernel_rfl) (fun _ _ _ h => h) (Or.inl ⟨by rfl, ?_⟩) hHeld ?_; rotate_left 1; focus (intro w hSw; (try dsimp only at hSw); go_simp; try with_reducible rfl)); (try simp only [Act.put, List.setIfInBounds_toArray, List.set_cons_zero, List.set_cons_succ])
      (refine wpAnyH_take (i := 14) (v := ?_) rfl (by kernel_rfl) (by kernel_rfl) (by kernel_rfl) (fun _ _ _ h => h) (Or.inl ⟨by rfl, ?_⟩) hHeld ?_; rotate_left 1; focus (intro w hSw; (try dsimp only at hSw); go_simp; try with_reducible rfl)); (try simp only [Act.put, List.setIfInBounds_toArray, List.set_cons_zero, List.set_cons_succ])
      (refine wpAnyH_take (i := 18) (v := ?_) rfl (by kernel_rfl) (by kernel_rfl) (by kernel_rfl) (fun _ _ _ h => h) (Or.inl ⟨by rfl, ?_⟩) hHeld ?_; rotate_left 1; focus (intro w hSw; (try dsimp only at hSw); go_simp; try with_reducible rfl)); (try simp only [Act.put, List.setIfInBounds_toArray, List.set_cons_zero, List.set_cons_succ])
      (refine wpAnyH_take (i := 19) (v := ?_) rfl (by kernel_rfl) (by kernel_rfl) (by kernel_rfl) (fun _ _ _ h => h) (Or.inl ⟨by rfl, ?_⟩) hHeld ?_; rotate_left 1; focus (intro w hSw; (try dsimp only at hSw); go_simp; try with_reducible rfl)); (try simp only [Act.put, List.setIfInBounds_toArray, List.set_cons_zero, List.set_cons_succ])
      (refine wpAnyH_take (i := 20) (v := ?_) rfl (by kernel_rfl) (by kernel_rfl) (by kernel_rfl) (fun _ _ _ h => h) (Or.inl ⟨by rfl, ?_⟩) hHeld ?_; rotate_left 1; focus (intro w hSw; (try dsimp only at hSw); go_simp; try with_reducible rfl)); (try simp only [Act.put, List.setIfInBounds_toArray, List.set_cons_zero, List.set_cons_succ])
      (refine wpAnyH_take (i := 22) (v := ?_) rfl (by kernel_rfl) (by kernel_rfl) (by kernel_rfl) (fun _ _ _ h => h) (Or.inl ⟨by rfl, ?_⟩) hHeld ?_; rotate_left 1; focus (intro w hSw; (try dsimp only at hSw); go_simp; try with_reducible rfl)); (try simp only [Act.put, List.setIfInBounds_toArray, List.set_cons_zero, List.set_cons_succ])
      (refine wpAnyH_take (i := 23) (v := ?_) rfl (by kernel_rfl) (by kernel_rfl) (by kernel_rfl) (fun _ _ _ h => h) (Or.inl ⟨by rfl, ?_⟩) hHeld ?_; rotate_left 1; focus (intro w hSw; (try dsimp only at hSw); go_simp; try with_reducible rfl)); (try simp only [Act.put, List.setIfInBounds_toArray, List.set_cons_zero, List.set_cons_succ])
      (refine wpAnyH_take (i := 24) (v := ?_) rfl (by kernel_rfl) (by kernel_rfl) (by kernel_rfl) (fun _ _ _ h => h) (Or.inl ⟨by rfl, ?_⟩) hHeld ?_; rotate_left 1; focus (intro w hSw; (try dsimp only at hSw); go_simp; try with_reducible rfl)); (try simp only [Act.put, List.setIfInBounds_toArray, List.set_cons_zero, List.set_cons_succ])
      (refine wpAnyH_take (i := 25) (v := ?_) rfl (by kernel_rfl) (by kernel_rfl) (by kernel_rfl) (fun _ _ _ h => h) (Or.inl ⟨by rfl, ?_⟩) hHeld ?_; rotate_left 1; focus (intro w hSw; (try dsimp only at hSw); go_simp; try with_reducible rfl)); (try simp only [Act.put, List.setIfInBounds_toArray, List.set_cons_zero, List.set_cons_succ])
      (refine wpAnyH_take (i := 31) (v := ?_) rfl (by kernel_rfl) (by kernel_rfl) (by kernel_rfl) (fun _ _ _ h => h) (Or.inl ⟨by rfl, ?_⟩) hHeld ?_; rotate_left 1; focus (intro w hSw; (try dsimp only at hSw); go_simp; try with_reducible rfl)); (try simp only [Act.put, List.setIfInBounds_toArray, List.set_cons_zero, List.set_cons_succ])
      refine wpAnyH_ready (rs := [15, 26]) (by kernel_rfl) (by simp) ?_
      refine AllReadyH.cons rfl (fun K hK => ?_) (AllReadyH.cons rfl (fun K hK => ?_) AllReadyH.nil)
      · go_simp
        refine hK.out _ _ (by first | exact StrAt.stepd hHeld | exact StrAt.step hHeld) (fun hHeld1 => ?_)
        clear hK K
        refine wpAnyH_weaken (S' := fun w' => ((convert 84 9 (.slice (some ⟨g0, 0, none⟩) 10 c)).run Try.prog w' = .ok (.string ⟨L.toArray⟩) w' ∧ StrAt g0 10 c L w') ∧ ((convert 84 9 (.slice (some ⟨W3.heap.size, 0, none⟩) 1 1)).run Try.prog w' = .ok (.string ⟨#[y]⟩) w' ∧ StrAt W3.heap.size 1 1 [y] w')) (fun w h => h.1) _ _ _ _ ?_
        have hHeld2 : ((convert 84 9 (.slice (some ⟨g0, 0, none⟩) 10 c)).run Try.prog (W3.alloc (.cells #[.int .u8 (y.toNat : Int)] 5)).drew = .ok (.string ⟨L.toArray⟩) (W3.alloc (.cells #[.int .u8 (y.toNat : Int)] 5)).drew ∧ StrAt g0 10 c L (W3.alloc (.cells #[.int .u8 (y.toNat : Int)] 5)).drew) ∧ ((convert 84 9 (.slice (some ⟨W3.heap.size, 0, none⟩) 1 1)).run Try.prog (W3.alloc (.cells #[.int .u8 (y.toNat : Int)] 5)).drew = .ok (.string ⟨#[y]⟩) (W3.alloc (.cells #[.int .u8 (y.toNat : Int)] 5)).drew ∧ StrAt W3.heap.size 1 1 [y] (W3.alloc (.cells #[.int .u8 (y.toNat : Int)] 5)).drew) := ⟨hHeld1, one_pair y W3⟩
        (refine wpAnyH_take (i := 16) (v := ?_) rfl (by kernel_rfl) (by kernel_rfl) (by kernel_rfl) (fun _ _ _ h => h) (Or.inl ⟨by rfl, ?_⟩) hHeld2 ?_; rotate_left 1; focus (intro w hSw; (try dsimp only at hSw); go_simp; try with_reducible rfl)); (try simp only [Act.put, List.setIfInBounds_toArray, List.set_cons_zero, List.set_cons_succ])
        (refine wpAnyH_take (i := 17) (v := ?_) rfl (by kernel_rfl) (by kernel_rfl) (by kernel_rfl) (fun _ _ _ h => h) (Or.inl ⟨by rfl, ?_⟩) hHeld2 ?_; rotate_left 1; focus (intro w hSw; (try dsimp only at hSw); go_simp; try with_reducible rfl)); (try simp only [Act.put, List.setIfInBounds_toArray, List.set_cons_zero, List.set_cons_succ])
        (refine wpAnyH_take (i := 21) (v := ?_) rfl (by kernel_rfl) (by kernel_rfl) (by kernel_rfl) (fun _ _ _ h => h) (Or.inl ⟨by rfl, ?_⟩) hHeld2 ?_; rotate_left 1; focus (intro w hSw; (try dsimp only at hSw); go_simp; try with_reducible rfl)); (try simp only [Act.put, List.setIfInBounds_toArray, List.set_cons_zero, List.set_cons_succ])
        refine wpAnyH_ready (rs := [26]) (by kernel_rfl) (by simp) ?_
        refine AllReadyH.cons rfl (fun K hK => ?_) AllReadyH.nil
        go_simp
        refine hK.out _ _ (by first | exact ⟨StrAt.stepd hHeld2.1, StrAt.stepd hHeld2.2⟩ | exact ⟨StrAt.step hHeld2.1, StrAt.step hHeld2.2⟩) (fun hHeld3 => ?_)
        clear hK K
        refine wpAnyH_weaken (S' := fun w' => (((convert 84 9 (.slice (some ⟨g0, 0, none⟩) 10 c)).run Try.prog w' = .ok (.string ⟨L.toArray⟩) w' ∧ StrAt g0 10 c L w') ∧ ((convert 84 9 (.slice (some ⟨W3.heap.size, 0, none⟩) 1 1)).run Try.prog w' = .ok (.string ⟨#[y]⟩) w' ∧ StrAt W3.heap.size 1 1 [y] w')) ∧ ((convert 84 9 (.slice (some ⟨W3.heap.size + 1, 0, none⟩) 1 1)).run Try.prog w' = .ok (.string ⟨#[y]⟩) w' ∧ StrAt (W3.heap.size + 1) 1 1 [y] w')) (fun w h => h.1) _ _ _ _ ?_
        have hHeld4 : (((convert 84 9 (.slice (some ⟨g0, 0, none⟩) 10 c)).run Try.prog ((W3.alloc (.cells #[.int .u8 (y.toNat : Int)] 5)).alloc (.cells #[.int .u8 (y.toNat : Int)] 5)).drew = .ok (.string ⟨L.toArray⟩) ((W3.alloc (.cells #[.int .u8 (y.toNat : Int)] 5)).alloc (.cells #[.int .u8 (y.toNat : Int)] 5)).drew ∧ StrAt g0 10 c L ((W3.alloc (.cells #[.int .u8 (y.toNat : Int)] 5)).alloc (.cells #[.int .u8 (y.toNat : Int)] 5)).drew) ∧ ((convert 84 9 (.slice (some ⟨W3.heap.size, 0, none⟩) 1 1)).run Try.prog ((W3.alloc (.cells #[.int .u8 (y.toNat : Int)] 5)).alloc (.cells #[.int .u8 (y.toNat : Int)] 5)).drew = .ok (.string ⟨#[y]⟩) ((W3.alloc (.cells #[.int .u8 (y.toNat : Int)] 5)).alloc (.cells #[.int .u8 (y.toNat : Int)] 5)).drew ∧ StrAt W3.heap.size 1 1 [y] ((W3.alloc (.cells #[.int .u8 (y.toNat : Int)] 5)).alloc (.cells #[.int .u8 (y.toNat : Int)] 5)).drew)) ∧ ((convert 84 9 (.slice (some ⟨W3.heap.size + 1, 0, none⟩) 1 1)).run Try.prog ((W3.alloc (.cells #[.int .u8 (y.toNat : Int)] 5)).alloc (.cells #[.int .u8 (y.toNat : Int)] 5)).drew = .ok (.string ⟨#[y]⟩) ((W3.alloc (.cells #[.int .u8 (y.toNat : Int)] 5)).alloc (.cells #[.int .u8 (y.toNat : Int)] 5)).drew ∧ StrAt (W3.heap.size + 1) 1 1 [y] ((W3.alloc (.cells #[.int .u8 (y.toNat : Int)] 5)).alloc (.cells #[.int .u8 (y.toNat : Int)] 5)).drew) := ⟨hHeld3, one_pair2 y W3 _⟩
        (refine wpAnyH_take (i := 27) (v := ?_) rfl (by kernel_rfl) (by kernel_rfl) (by kernel_rfl) (fun _ _ _ h => h) (Or.inl ⟨by rfl, ?_⟩) hHeld4 ?_; rotate_left 1; focus (intro w hSw; (try dsimp only at hSw); go_simp; try with_reducible rfl)); (try simp only [Act.put, List.setIfInBounds_toArray, List.set_cons_zero, List.set_cons_succ])
        (refine wpAnyH_take (i := 28) (v := ?_) rfl (by kernel_rfl) (by kernel_rfl) (by kernel_rfl) (fun _ _ _ h => h) (Or.inl ⟨by rfl, ?_⟩) hHeld4 ?_; rotate_left 1; focus (intro w hSw; (try dsimp only at hSw); go_simp; try with_reducible rfl)); (try simp only [Act.put, List.setIfInBounds_toArray, List.set_cons_zero, List.set_cons_succ])
        refine wpAnyH_ready (rs := [29]) (by kernel_rfl) (by simp) ?_
        refine AllReadyH.cons rfl (fun K hK => ?_) AllReadyH.nil
        go_simp
        refine hK.out _ _ (by first | exact ⟨⟨StrAt.stepd hHeld4.1.1, StrAt.stepd hHeld4.1.2⟩, StrAt.stepd hHeld4.2⟩ | exact ⟨⟨StrAt.step hHeld4.1.1, StrAt.step hHeld4.1.2⟩, StrAt.step hHeld4.2⟩) (fun hHeld5 => ?_)
        clear hK K
        refine wpAnyH_ready (rs := [30]) (by kernel_rfl) (by simp) ?_
        refine AllReadyH.cons rfl (fun K hK => ?_) AllReadyH.nil
        go_simp
        refine hK.out _ _ hHeld5 (fun hHeld6 => ?_)
        clear hK K
        refine wpAnyH_done (by kernel_rfl) ?_ _
        go_wp2_with fail
        go_meet
        exact ⟨sixStr_of bel3 _ _ _ _ _ _ _ _ (six_sizes s k 10 y L hs1 (by omega) (by omega) HL.out), rfl, rfl⟩
      · go_simp
        refine hK.out _ _ (by first | exact StrAt.stepd hHeld | exact StrAt.step hHeld) (fun hHeld1 => ?_)
        clear hK K
        refine wpAnyH_weaken (S' := fun w' => ((convert 84 9 (.slice (some ⟨g0, 0, none⟩) 10 c)).run Try.prog w' = .ok (.string ⟨L.toArray⟩) w' ∧ StrAt g0 10 c L w') ∧ ((convert 84 9 (.slice (some ⟨W3.heap.size, 0, none⟩) 1 1)).run Try.prog w' = .ok (.string ⟨#[y]⟩) w' ∧ StrAt W3.heap.size 1 1 [y] w')) (fun w h => h.1) _ _ _ _ ?_
        have hHeld2 : ((convert 84 9 (.slice (some ⟨g0, 0, none⟩) 10 c)).run Try.prog (W3.alloc (.cells #[.int .u8 (y.toNat : Int)] 5)).drew = .ok (.string ⟨L.toArray⟩) (W3.alloc (.cells #[.int .u8 (y.toNat : Int)] 5)).drew ∧ StrAt g0 10 c L (W3.alloc (.cells #[.int .u8 (y.toNat : Int)] 5)).drew) ∧ ((convert 84 9 (.slice (some ⟨W3.heap.size, 0, none⟩) 1 1)).run Try.prog (W3.alloc (.cells #[.int .u8 (y.toNat : Int)] 5)).drew = .ok (.string ⟨#[y]⟩) (W3.alloc (.cells #[.int .u8 (y.toNat : Int)] 5)).drew ∧ StrAt W3.heap.size 1 1 [y] (W3.alloc (.cells #[.int .u8 (y.toNat : Int)] 5)).drew) := ⟨hHeld1, one_pair y W3⟩
        (refine wpAnyH_take (i := 27) (v := ?_) rfl (by kernel_rfl) (by kernel_rfl) (by kernel_rfl) (fun _ _ _ h => h) (Or.inl ⟨by rfl, ?_⟩) hHeld2 ?_; rotate_left 1; focus (intro w hSw; (try dsimp only at hSw); go_simp; try with_reducible rfl)); (try simp only [Act.put, List.setIfInBounds_toArray, List.set_cons_zero, List.set_cons_succ])
        (refine wpAnyH_take (i := 28) (v := ?_) rfl (by kernel_rfl) (by kernel_rfl) (by kernel_rfl) (fun _ _ _ h => h) (Or.inl ⟨by rfl, ?_⟩) hHeld2 ?_; rotate_left 1; focus (intro w hSw; (try dsimp only at hSw); go_simp; try with_reducible rfl)); (try simp only [Act.put, List.setIfInBounds_toArray, List.set_cons_zero, List.set_cons_succ])
        refine wpAnyH_ready (rs := [15]) (by kernel_rfl) (by simp) ?_
        refine AllReadyH.cons rfl (fun K hK => ?_) AllReadyH.nil
        go_simp
        refine hK.out _ _ (by first | exact ⟨StrAt.stepd hHeld2.1, StrAt.stepd hHeld2.2⟩ | exact ⟨StrAt.step hHeld2.1, StrAt.step hHeld2.2⟩) (fun hHeld3 => ?_)
        clear hK K
        refine wpAnyH_weaken (S' := fun w' => (((convert 84 9 (.slice (some ⟨g0, 0, none⟩) 10 c)).run Try.prog w' = .ok (.string ⟨L.toArray⟩) w' ∧ StrAt g0 10 c L w') ∧ ((convert 84 9 (.slice (some ⟨W3.heap.size, 0, none⟩) 1 1)).run Try.prog w' = .ok (.string ⟨#[y]⟩) w' ∧ StrAt W3.heap.size 1 1 [y] w')) ∧ ((convert 84 9 (.slice (some ⟨W3.heap.size + 1, 0, none⟩) 1 1)).run Try.prog w' = .ok (.string ⟨#[y]⟩) w' ∧ StrAt (W3.heap.size + 1) 1 1 [y] w')) (fun w h => h.1) _ _ _ _ ?_
        have hHeld4 : (((convert 84 9 (.slice (some ⟨g0, 0, none⟩) 10 c)).run Try.prog ((W3.alloc (.cells #[.int .u8 (y.toNat : Int)] 5)).alloc (.cells #[.int .u8 (y.toNat : Int)] 5)).drew = .ok (.string ⟨L.toArray⟩) ((W3.alloc (.cells #[.int .u8 (y.toNat : Int)] 5)).alloc (.cells #[.int .u8 (y.toNat : Int)] 5)).drew ∧ StrAt g0 10 c L ((W3.alloc (.cells #[.int .u8 (y.toNat : Int)] 5)).alloc (.cells #[.int .u8 (y.toNat : Int)] 5)).drew) ∧ ((convert 84 9 (.slice (some ⟨W3.heap.size, 0, none⟩) 1 1)).run Try.prog ((W3.alloc (.cells #[.int .u8 (y.toNat : Int)] 5)).alloc (.cells #[.int .u8 (y.toNat : Int)] 5)).drew = .ok (.string ⟨#[y]⟩) ((W3.alloc (.cells #[.int .u8 (y.toNat : Int)] 5)).alloc (.cells #[.int .u8 (y.toNat : Int)] 5)).drew ∧ StrAt W3.heap.size 1 1 [y] ((W3.alloc (.cells #[.int .u8 (y.toNat : Int)] 5)).alloc (.cells #[.int .u8 (y.toNat : Int)] 5)).drew)) ∧ ((convert 84 9 (.slice (some ⟨W3.heap.size + 1, 0, none⟩) 1 1)).run Try.prog ((W3.alloc (.cells #[.int .u8 (y.toNat : Int)] 5)).alloc (.cells #[.int .u8 (y.toNat : Int)] 5)).drew = .ok (.string ⟨#[y]⟩) ((W3.alloc (.cells #[.int .u8 (y.toNat : Int)] 5)).alloc (.cells #[.int .u8 (y.toNat : Int)] 5)).drew ∧ StrAt (W3.heap.size + 1) 1 1 [y] ((W3.alloc (.cells #[.int .u8 (y.toNat : Int)] 5)).alloc (.cells #[.int .u8 (y.toNat : Int)] 5)).drew) := ⟨hHeld3, one_pair2 y W3 _⟩
        (refine wpAnyH_take (i := 16) (v := ?_) rfl (by kernel_rfl) (by kernel_rfl) (by kernel_rfl) (fun _ _ _ h => h) (Or.inl ⟨by rfl, ?_⟩) hHeld4 ?_; rotate_left 1; focus (intro w hSw; (try dsimp only at hSw); go_simp; try with_reducible rfl)); (try simp only [Act.put, List.setIfInBounds_toArray, List.set_cons_zero, List.set_cons_succ])
        (refine wpAnyH_take (i := 17) (v := ?_) rfl (by kernel_rfl) (by kernel_rfl) (by kernel_rfl) (fun _ _ _ h => h) (Or.inl ⟨by rfl, ?_⟩) hHeld4 ?_; rotate_left 1; focus (intro w hSw; (try dsimp only at hSw); go_simp; try with_reducible rfl)); (try simp only [Act.put, List.setIfInBounds_toArray, List.set_cons_zero, List.set_cons_succ])
        (refine wpAnyH_take (i := 21) (v := ?_) rfl (by kernel_rfl) (by kernel_rfl) (by kernel_rfl) (fun _ _ _ h => h) (Or.inl ⟨by rfl, ?_⟩) hHeld4 ?_; rotate_left 1; focus (intro w hSw; (try dsimp only at hSw); go_simp; try with_reducible rfl)); (try simp only [Act.put, List.setIfInBounds_toArray, List.set_cons_zero, List.set_cons_succ])
        refine wpAnyH_ready (rs := [29]) (by kernel_rfl) (by simp) ?_
        refine AllReadyH.cons rfl (fun K hK => ?_) AllReadyH.nil
        go_simp
        refine hK.out _ _ (by first | exact ⟨⟨StrAt.stepd hHeld4.1.1, StrAt.stepd hHeld4.1.2⟩, StrAt.stepd hHeld4.2⟩ | exact ⟨⟨StrAt.step hHeld4.1.1, StrAt.step hHeld4.1.2⟩, StrAt.step hHeld4.2⟩) (fun hHeld5 => ?_)
        clear hK K
        refine wpAnyH_ready (rs := [30]) (by kernel_rfl) (by simp) ?_
        refine AllReadyH.cons rfl (fun K hK => ?_) AllReadyH.nil
        go_simp
        refine hK.out _ _ hHeld5 (fun hHeld6 => ?_)
        clear hK K
        refine wpAnyH_done (by kernel_rfl) ?_ _
        go_wp2_with fail
        go_meet
        exact ⟨sixStr_of bel3 _ _ _ _ _ _ _ _ (six_sizes s k 10 y L hs1 (by omega) (by omega) HL.out), rfl, rfl⟩
    case rest =>
      obtain ⟨⟨gg, rfl, hgW, BELW0, hX⟩, rfl, rfl⟩ := hcut
      obtain ⟨W, hW⟩ : ∃ W, W = wc := ⟨_, rfl⟩
      subst hW
      have BELW := Lib.hid BELW0
      clear hq0 hq1 hq2 BELW0 SA HL HC HX HG hk3 hk4 hk5 hkw hk10 hk11 hk12 hk13 hk14 hk15 hk16 hk17
      go_wp2_with fail
      go_loopw [81] (fun i wr => ∃ p : Nat, i = .int .i64 p ∧ p ≤ 6 ∧ Below W.heap.size W wr) (fun i _ => 6 - (intOf i).toNat)
      case atStart => exact ⟨0, rfl, by omega, Below.refl _ _⟩
      case round =>
        obtain ⟨p, rfl, hp, hbel⟩ := hrel
        have hs := hbel.size
        by_cases hlt : p < 6
        · obtain ⟨xx, hx, hxs⟩ := hX p hlt
          have hc0 : wr.cell? ⟨gg, p, none⟩ = some (.string xx) := (hbel.cell (p := ⟨gg, p, none⟩) hgW).trans hx
          have HX := Lib.hid hX
          obtain ⟨ta, wa, ok, hv⟩ := sigV_split xx.data.toList
          have HV := Lib.hid hv
          clear hX hx hv
          go_wp2_with (first
            | (go_at_call 39; (with_reducible refine (parse_any xx _ hxs).mono ?_); rintro e w2 ⟨rfl, bel2'⟩; rw [HV.out]; have BEL2 := Lib.hid bel2'; have hs2 := bel2'.size; clear bel2')
            | (go_at_call 40; (with_reducible refine (refparse_any xx _ hxs).mono ?_); rintro e w3 ⟨rfl, bel3'⟩; rw [HV.out]; have f0 : w3.cell? ⟨w2.heap.size, 0, none⟩ = some (.int .i64 ta) := (bel3'.cell (p := ⟨w2.heap.size, 0, none⟩) (by simp)).trans (by simp [go_sem]); have f1 : w3.cell? ⟨w2.heap.size, 1, none⟩ = some (.int .i64 wa) := (bel3'.cell (p := ⟨w2.heap.size, 1, none⟩) (by simp)).trans (by simp [go_sem]); have hs3 : w2.heap.size < w3.heap.size := (by have h33 := bel3'.size; simp at h33; omega); have BEL3 := Lib.hid bel3'; clear bel3')
            | fail)
          go_roundw
          case rel =>
            refine ⟨p + 1, by go_num, by omega, hbel.trans (Below.mono ?_ hs)⟩
            exact ((BEL2.out.alloc hs2 _).trans (BEL3.out.mono (by simp; omega))).alloc (by omega) _
          case measure => simp [intOf]; omega
        · go_wp2_with (first
            | (go_at_call 38; (with_reducible refine (awake13_any _).mono ?_); rintro e w5 ⟨rfl, bel5⟩)
            | fail)
          go_ret
          exact ⟨rfl, BELW.out.trans ((hbel.trans (bel5.mono hs)).mono BELW.out.size)⟩
  · go_enter Try.func9, Try.ntmps9
    go_wp2_with (first
      | (go_at_call 15; (with_reducible refine (mod_any _ _ _ (by omega) (by omega)).mono ?_); rintro e w' ⟨rfl, rfl⟩)
      | fail)
    obtain ⟨s, hs⟩ : ∃ s : ByteArray, s = { data := #[115, 110, 97, 112, 115, 104, 111, 116, 32] } ++ { data := #[c1] } ++ { data := #[32] } ++ { data := #[c2] } := ⟨_, rfl⟩
    have hs1 : s.size = 12 := by rw [hs]; rfl
    rw [← hs]
    have hk := modOf_range at_ 12 (by omega)
    obtain ⟨k, hk0⟩ := Int.eq_ofNat_of_zero_le hk.1
    rw [hk0] at hk ⊢
    obtain ⟨W1, hW1⟩ : ∃ W1, W1 = (w.alloc (.cells #[.int .u8 (c1.toNat : Int)] 5)).alloc (.cells #[.int .u8 (c2.toNat : Int)] 5) := ⟨_, rfl⟩
    rw [← hW1]
    have bel1 : Below w.heap.size w W1 := by rw [hW1]; exact ((Below.refl _ _).alloc (Nat.le_refl _) _).alloc (by simp) _
    clear hW1 hs hk0 hc1 hc2 hk1 hk2 hm1 hm2 hk6
    rw [run_bytes_of_string _ _ _ 5 s Try.underlying9 Try.underlying84 Try.underlying5]
    obtain ⟨c, hc⟩ : ∃ c, c = grownCap W1 s.size 0 5 := ⟨_, rfl⟩
    rw [← hc]
    simp only [Result.andThen]
    rw [Oper.upon_value]
    obtain ⟨W2, hW2⟩ : ∃ W2, W2 = (W1.drew.alloc (.cells (bytesRow s c) 5 ((bytesRow s c).size, (bytesRow s c).size + 1))) := ⟨_, rfl⟩
    rw [← hW2]
    have hcells := bytes_cells s c W1 hW2
    have bel2 : Below w.heap.size w W2 := by rw [hW2]; exact (below_drewN bel1 1).alloc bel1.size _
    have hcap : s.size ≤ c := by rw [hc]; exact grownCap_ge _ _ _ _
    have hgs : W2.heap.size = W1.heap.size + 1 := by rw [hW2]; simp
    have hg0 := bel1.size
    obtain ⟨g0, hg0'⟩ : ∃ g0, g0 = W1.heap.size := ⟨_, rfl⟩
    rw [← hg0'] at hcells hgs hg0 ⊢
    clear hW2 hc hg0' bel1
    have hks : k < s.size := by omega
    obtain ⟨x, hx⟩ : ∃ x, x = s[k]'hks := ⟨_, rfl⟩
    obtain ⟨hk1, hk2⟩ := hcells k hks
    rw [← hx] at hk1
    have HX := Lib.hid hx
    have HC := Lib.hid hcells
    have HG := Lib.hid hgs
    have hgs' : g0 < W2.heap.size := by omega
    have HS := Lib.hid hs1
    clear hx hcells hgs
    have SA : StrAt g0 s.size c (s.data.toList.set k (x + y)) (W2.setCell ⟨g0, k, none⟩ (.int .u8 ((x.toNat + y.toNat : Int) % 256))) := by rw [HX.out]; exact StrAt.set hgs' hks HC.out rfl
    rw [hs1] at SA hcap ⊢
    obtain ⟨L, hL⟩ : ∃ L, L = s.data.toList.set k (x + y) := ⟨_, rfl⟩
    rw [← hL] at SA
    have hLl : L.length = 12 := SA.2.1.symm
    have HL := Lib.hid hLl
    clear hL hLl
    go_upto_region 7 with fail
    obtain ⟨W3, hW3⟩ : ∃ W3, W3 = W2.setCell ⟨g0, k, none⟩ (.int .u8 ((x.toNat + y.toNat : Int) % 256)) := ⟨_, rfl⟩
    have bel3 : Below w.heap.size w W3 := by rw [hW3]; exact bel2.setCell hg0 _
    rw [← hW3] at SA ⊢
    clear hk3 hk1 hk2 hW3
    have hq0 : (convert 84 9 (.slice (some ⟨g0, 0, none⟩) 12 c)).run Try.prog W3.drew = .ok (.string ⟨L.toArray⟩) W3.drew := (StrAt.start SA).1
    have hq1 : ∀ o, (convert 84 9 (.slice (some ⟨g0, 0, none⟩) 12 c)).run Try.prog (W3.alloc o).drew = .ok (.string ⟨L.toArray⟩) (W3.alloc o).drew := fun o => (StrAt.stepd (StrAt.start SA)).1
    have hq2 : ∀ o o', (convert 84 9 (.slice (some ⟨g0, 0, none⟩) 12 c)).run Try.prog ((W3.alloc o).alloc o').drew = .ok (.string ⟨L.toArray⟩) ((W3.alloc o).alloc o').drew := fun o o' => (StrAt.stepd (StrAt.stepd (StrAt.start SA))).1
    have hk3 := one_strd y
    have hk4 := one_str2d y
    have hk5 := one_str3d y
    have hkw : IntKind.i64.wrap ((k : Int) + 1) = (k : Int) + 1 := IntWalk.i64_in _ (by omega)
    have hk11 : (k : Int) + 1 ≤ 12 := by omega
    have hk10 : (k : Int) ≤ 12 := by omega
    have hk12 : (0 : Int) ≤ (k : Int) + 1 := by omega
    have hk13 : ((k : Int) + 1).toNat = k + 1 := by omega
    have hk14 : k ≤ 12 := by omega
    have hk15 : ¬ 9223372036854775807 < k + (11 - k) := by omega
    have hk16 : ¬ 9223372036854775807 < k + 1 := by omega
    have hk17 : ¬ 9223372036854775807 < k + 1 + (12 - k) := by omega
    go_cut [79, 80, 81] (fun s79 s80 s81 wx => SixStr w s79 wx ∧ s80 = .int .i64 6 ∧ s81 = .int .i64 0)
    case first =>
      refine wp_region_held_drew (S := fun w' => ((convert 84 9 (.slice (some ⟨g0, 0, none⟩) 12 c)).run Try.prog w' = .ok (.string ⟨L.toArray⟩) w' ∧ StrAt g0 12 c L w')) (by kernel_rfl) (StrAt.start SA) (fun hHeld => ?_)
      (refine wpAnyH_take (i := 0) (v := ?_) rfl (by kernel_rfl) (by kernel_rfl) (by kernel_rfl) (fun _ _ _ h => h) (Or.inl ⟨by rfl, ?_⟩) hHeld ?_; rotate_left 1; focus (intro w hSw; (try dsimp only at hSw); go_simp; try with_reducible rfl)); (try simp only [Act.put, List.setIfInBounds_toArray, List.set_cons_zero, List.set_cons_succ])
      (refine wpAnyH_take (i := 1) (v := ?_) rfl (by kernel_rfl) (by kernel_rfl) (by kernel_rfl) (fun _ _ _ h => h) (Or.inl ⟨by rfl, ?_⟩) hHeld ?_; rotate_left 1; focus (intro w hSw; (try dsimp only at hSw); go_simp; try with_reducible rfl)); (try simp only [Act.put, List.setIfInBounds_toArray, List.set_cons_zero, List.set_cons_succ])
      (refine wpAnyH_take (i := 2) (v := ?_) rfl (by kernel_rfl) (by kernel_rfl) (by kernel_rfl) (fun _ _ _ h => h) (Or.inl ⟨by rfl, ?_⟩) hHeld ?_; rotate_left 1; focus (intro w hSw; (try dsimp only at hSw); go_simp; try with_reducible rfl)); (try simp only [Act.put, List.setIfInBounds_toArray, List.set_cons_zero, List.set_cons_succ])
      (refine wpAnyH_take (i := 3) (v := ?_) rfl (by kernel_rfl) (by kernel_rfl) (by kernel_rfl) (fun _ _ _ h => h) (Or.inl ⟨by rfl, ?_⟩) hHeld ?_; rotate_left 1; focus (intro w hSw; (try dsimp only at hSw); go_simp; try with_reducible rfl)); (try simp only [Act.put, List.setIfInBounds_toArray, List.set_cons_zero, List.set_cons_succ])
      (refine wpAnyH_take (i := 4) (v := ?_) rfl (by kernel_rfl) (by kernel_rfl) (by kernel_rfl) (fun _ _ _ h => h) (Or.inl ⟨by rfl, ?_⟩) hHeld ?_; rotate_left 1; focus (intro w hSw; (try dsimp only at hSw); go_simp; try with_reducible rfl)); (try simp only [Act.put, List.setIfInBounds_toArray, List.set_cons_zero, List.set_cons_succ])
      (refine wpAnyH_take (i := 5) (v := ?_) rfl (by kernel_rfl) (by kernel_rfl) (by kernel_rfl) (fun _ _ _ h => h) (Or.inl ⟨by rfl, ?_⟩) hHeld ?_; rotate_left 1; focus (intro w hSw; (try dsimp only at hSw); go_simp; try with_reducible rfl)); (try simp only [Act.put, List.setIfInBounds_toArray, List.set_cons_zero, List.set_cons_succ])
      (refine wpAnyH_take (i := 6) (v := ?_) rfl (by kernel_rfl) (by kernel_rfl) (by kernel_rfl) (fun _ _ _ h => h) (Or.inl ⟨by rfl, ?_⟩) hHeld ?_; rotate_left 1; focus (intro w hSw; (try dsimp only at hSw); go_simp; try with_reducible rfl)); (try simp only [Act.put, List.setIfInBounds_toArray, List.set_cons_zero, List.set_cons_succ])
      (refine wpAnyH_take (i := 7) (v := ?_) rfl (by kernel_rfl) (by kernel_rfl) (by kernel_rfl) (fun _ _ _ h => h) (Or.inl ⟨by rfl, ?_⟩) hHeld ?_; rotate_left 1; focus (intro w hSw; (try dsimp only at hSw); go_simp; try with_reducible rfl)); (try simp only [Act.put, List.setIfInBounds_toArray, List.set_cons_zero, List.set_cons_succ])
      (refine wpAnyH_take (i := 8) (v := ?_) rfl (by kernel_rfl) (by kernel_rfl) (by kernel_rfl) (fun _ _ _ h => h) (Or.inl ⟨by rfl, ?_⟩) hHeld ?_; rotate_left 1; focus (intro w hSw; (try dsimp only at hSw); go_simp; try with_reducible rfl)); (try simp only [Act.put, List.setIfInBounds_toArray, List.set_cons_zero, List.set_cons_succ])
      (refine wpAnyH_take (i := 9) (v := ?_) rfl (by kernel_rfl) (by kernel_rfl) (by kernel_rfl) (fun _ _ _ h => h) (Or.inl ⟨by rfl, ?_⟩) hHeld ?_; rotate_left 1; focus (intro w hSw; (try dsimp only at hSw); go_simp; try with_reducible rfl)); (try simp only [Act.put, List.setIfInBounds_toArray, List.set_cons_zero, List.set_cons_succ])
      (refine wpAnyH_take (i := 10) (v := ?_) rfl (by kernel_rfl) (by kernel_rfl) (by kernel_rfl) (fun _ _ _ h => h) (Or.inl ⟨by rfl, ?_⟩) hHeld ?_; rotate_left 1; focus (intro w hSw; (try dsimp only at hSw); go_simp; try with_reducible rfl)); (try simp only [Act.put, List.setIfInBounds_toArray, List.set_cons_zero, List.set_cons_succ])
      (refine wpAnyH_take (i := 11) (v := ?_) rfl (by kernel_rfl) (by kernel_rfl) (by kernel_rfl) (fun _ _ _ h => h) (Or.inl ⟨by rfl, ?_⟩) hHeld ?_; rotate_left 1; focus (intro w hSw; (try dsimp only at hSw); go_simp; try with_reducible rfl)); (try simp only [Act.put, List.setIfInBounds_toArray, List.set_cons_zero, List.set_cons_succ])
      (refine wpAnyH_take (i := 12) (v := ?_) rfl (by kernel_rfl) (by kernel_rfl) (by kernel_rfl) (fun _ _ _ h => h) (Or.inl ⟨by rfl, ?_⟩) hHeld ?_; rotate_left 1; focus (intro w hSw; (try dsimp only at hSw); go_simp; try with_reducible rfl)); (try simp only [Act.put, List.setIfInBounds_toArray, List.set_cons_zero, List.set_cons_succ])
      (refine wpAnyH_take (i := 13) (v := ?_) rfl (by kernel_rfl) (by kernel_rfl) (by kernel_rfl) (fun _ _ _ h => h) (Or.inl ⟨by rfl, ?_⟩) hHeld ?_; rotate_left 1; focus (intro w hSw; (try dsimp only at hSw); go_simp; try with_reducible rfl)); (try simp only [Act.put, List.setIfInBounds_toArray, List.set_cons_zero, List.set_cons_succ])
      (refine wpAnyH_take (i := 14) (v := ?_) rfl (by kernel_rfl) (by kernel_rfl) (by kernel_rfl) (fun _ _ _ h => h) (Or.inl ⟨by rfl, ?_⟩) hHeld ?_; rotate_left 1; focus (intro w hSw; (try dsimp only at hSw); go_simp; try with_reducible rfl)); (try simp only [Act.put, List.setIfInBounds_toArray, List.set_cons_zero, List.set_cons_succ])
      (refine wpAnyH_take (i := 18) (v := ?_) rfl (by kernel_rfl) (by kernel_rfl) (by kernel_rfl) (fun _ _ _ h => h) (Or.inl ⟨by rfl, ?_⟩) hHeld ?_; rotate_left 1; focus (intro w hSw; (try dsimp only at hSw); go_simp; try with_reducible rfl)); (try simp only [Act.put, List.setIfInBounds_toArray, List.set_cons_zero, List.set_cons_succ])
      (refine wpAnyH_take (i := 19) (v := ?_) rfl (by kernel_rfl) (by kernel_rfl) (by kernel_rfl) (fun _ _ _ h => h) (Or.inl ⟨by rfl, ?_⟩) hHeld ?_; rotate_left 1; focus (intro w hSw; (try dsimp only at hSw); go_simp; try with_reducible rfl)); (try simp only [Act.put, List.setIfInBounds_toArray, List.set_cons_zero, List.set_cons_succ])
      (refine wpAnyH_take (i := 20) (v := ?_) rfl (by kernel_rfl) (by kernel_rfl) (by kernel_rfl) (fun _ _ _ h => h) (Or.inl ⟨by rfl, ?_⟩) hHeld ?_; rotate_left 1; focus (intro w hSw; (try dsimp only at hSw); go_simp; try with_reducible rfl)); (try simp only [Act.put, List.setIfInBounds_toArray, List.set_cons_zero, List.set_cons_succ])
      (refine wpAnyH_take (i := 22) (v := ?_) rfl (by kernel_rfl) (by kernel_rfl) (by kernel_rfl) (fun _ _ _ h => h) (Or.inl ⟨by rfl, ?_⟩) hHeld ?_; rotate_left 1; focus (intro w hSw; (try dsimp only at hSw); go_simp; try with_reducible rfl)); (try simp only [Act.put, List.setIfInBounds_toArray, List.set_cons_zero, List.set_cons_succ])
      (refine wpAnyH_take (i := 23) (v := ?_) rfl (by kernel_rfl) (by kernel_rfl) (by kernel_rfl) (fun _ _ _ h => h) (Or.inl ⟨by rfl, ?_⟩) hHeld ?_; rotate_left 1; focus (intro w hSw; (try dsimp only at hSw); go_simp; try with_reducible rfl)); (try simp only [Act.put, List.setIfInBounds_toArray, List.set_cons_zero, List.set_cons_succ])
      (refine wpAnyH_take (i := 24) (v := ?_) rfl (by kernel_rfl) (by kernel_rfl) (by kernel_rfl) (fun _ _ _ h => h) (Or.inl ⟨by rfl, ?_⟩) hHeld ?_; rotate_left 1; focus (intro w hSw; (try dsimp only at hSw); go_simp; try with_reducible rfl)); (try simp only [Act.put, List.setIfInBounds_toArray, List.set_cons_zero, List.set_cons_succ])
      (refine wpAnyH_take (i := 25) (v := ?_) rfl (by kernel_rfl) (by kernel_rfl) (by kernel_rfl) (fun _ _ _ h => h) (Or.inl ⟨by rfl, ?_⟩) hHeld ?_; rotate_left 1; focus (intro w hSw; (try dsimp only at hSw); go_simp; try with_reducible rfl)); (try simp only [Act.put, List.setIfInBounds_toArray, List.set_cons_zero, List.set_cons_succ])
      (refine wpAnyH_take (i := 31) (v := ?_) rfl (by kernel_rfl) (by kernel_rfl) (by kernel_rfl) (fun _ _ _ h => h) (Or.inl ⟨by rfl, ?_⟩) hHeld ?_; rotate_left 1; focus (intro w hSw; (try dsimp only at hSw); go_simp; try with_reducible rfl)); (try simp only [Act.put, List.setIfInBounds_toArray, List.set_cons_zero, List.set_cons_succ])
      refine wpAnyH_ready (rs := [15, 26]) (by kernel_rfl) (by simp) ?_
      refine AllReadyH.cons rfl (fun K hK => ?_) (AllReadyH.cons rfl (fun K hK => ?_) AllReadyH.nil)
      · go_simp
        refine hK.out _ _ (by first | exact StrAt.stepd hHeld | exact StrAt.step hHeld) (fun hHeld1 => ?_)
        clear hK K
        refine wpAnyH_weaken (S' := fun w' => ((convert 84 9 (.slice (some ⟨g0, 0, none⟩) 12 c)).run Try.prog w' = .ok (.string ⟨L.toArray⟩) w' ∧ StrAt g0 12 c L w') ∧ ((convert 84 9 (.slice (some ⟨W3.heap.size, 0, none⟩) 1 1)).run Try.prog w' = .ok (.string ⟨#[y]⟩) w' ∧ StrAt W3.heap.size 1 1 [y] w')) (fun w h => h.1) _ _ _ _ ?_
        have hHeld2 : ((convert 84 9 (.slice (some ⟨g0, 0, none⟩) 12 c)).run Try.prog (W3.alloc (.cells #[.int .u8 (y.toNat : Int)] 5)).drew = .ok (.string ⟨L.toArray⟩) (W3.alloc (.cells #[.int .u8 (y.toNat : Int)] 5)).drew ∧ StrAt g0 12 c L (W3.alloc (.cells #[.int .u8 (y.toNat : Int)] 5)).drew) ∧ ((convert 84 9 (.slice (some ⟨W3.heap.size, 0, none⟩) 1 1)).run Try.prog (W3.alloc (.cells #[.int .u8 (y.toNat : Int)] 5)).drew = .ok (.string ⟨#[y]⟩) (W3.alloc (.cells #[.int .u8 (y.toNat : Int)] 5)).drew ∧ StrAt W3.heap.size 1 1 [y] (W3.alloc (.cells #[.int .u8 (y.toNat : Int)] 5)).drew) := ⟨hHeld1, one_pair y W3⟩
        (refine wpAnyH_take (i := 16) (v := ?_) rfl (by kernel_rfl) (by kernel_rfl) (by kernel_rfl) (fun _ _ _ h => h) (Or.inl ⟨by rfl, ?_⟩) hHeld2 ?_; rotate_left 1; focus (intro w hSw; (try dsimp only at hSw); go_simp; try with_reducible rfl)); (try simp only [Act.put, List.setIfInBounds_toArray, List.set_cons_zero, List.set_cons_succ])
        (refine wpAnyH_take (i := 17) (v := ?_) rfl (by kernel_rfl) (by kernel_rfl) (by kernel_rfl) (fun _ _ _ h => h) (Or.inl ⟨by rfl, ?_⟩) hHeld2 ?_; rotate_left 1; focus (intro w hSw; (try dsimp only at hSw); go_simp; try with_reducible rfl)); (try simp only [Act.put, List.setIfInBounds_toArray, List.set_cons_zero, List.set_cons_succ])
        (refine wpAnyH_take (i := 21) (v := ?_) rfl (by kernel_rfl) (by kernel_rfl) (by kernel_rfl) (fun _ _ _ h => h) (Or.inl ⟨by rfl, ?_⟩) hHeld2 ?_; rotate_left 1; focus (intro w hSw; (try dsimp only at hSw); go_simp; try with_reducible rfl)); (try simp only [Act.put, List.setIfInBounds_toArray, List.set_cons_zero, List.set_cons_succ])
        refine wpAnyH_ready (rs := [26]) (by kernel_rfl) (by simp) ?_
        refine AllReadyH.cons rfl (fun K hK => ?_) AllReadyH.nil
        go_simp
        refine hK.out _ _ (by first | exact ⟨StrAt.stepd hHeld2.1, StrAt.stepd hHeld2.2⟩ | exact ⟨StrAt.step hHeld2.1, StrAt.step hHeld2.2⟩) (fun hHeld3 => ?_)
        clear hK K
        refine wpAnyH_weaken (S' := fun w' => (((convert 84 9 (.slice (some ⟨g0, 0, none⟩) 12 c)).run Try.prog w' = .ok (.string ⟨L.toArray⟩) w' ∧ StrAt g0 12 c L w') ∧ ((convert 84 9 (.slice (some ⟨W3.heap.size, 0, none⟩) 1 1)).run Try.prog w' = .ok (.string ⟨#[y]⟩) w' ∧ StrAt W3.heap.size 1 1 [y] w')) ∧ ((convert 84 9 (.slice (some ⟨W3.heap.size + 1, 0, none⟩) 1 1)).run Try.prog w' = .ok (.string ⟨#[y]⟩) w' ∧ StrAt (W3.heap.size + 1) 1 1 [y] w')) (fun w h => h.1) _ _ _ _ ?_
        have hHeld4 : (((convert 84 9 (.slice (some ⟨g0, 0, none⟩) 12 c)).run Try.prog ((W3.alloc (.cells #[.int .u8 (y.toNat : Int)] 5)).alloc (.cells #[.int .u8 (y.toNat : Int)] 5)).drew = .ok (.string ⟨L.toArray⟩) ((W3.alloc (.cells #[.int .u8 (y.toNat : Int)] 5)).alloc (.cells #[.int .u8 (y.toNat : Int)] 5)).drew ∧ StrAt g0 12 c L ((W3.alloc (.cells #[.int .u8 (y.toNat : Int)] 5)).alloc (.cells #[.int .u8 (y.toNat : Int)] 5)).drew) ∧ ((convert 84 9 (.slice (some ⟨W3.heap.size, 0, none⟩) 1 1)).run Try.prog ((W3.alloc (.cells #[.int .u8 (y.toNat : Int)] 5)).alloc (.cells #[.int .u8 (y.toNat : Int)] 5)).drew = .ok (.string ⟨#[y]⟩) ((W3.alloc (.cells #[.int .u8 (y.toNat : Int)] 5)).alloc (.cells #[.int .u8 (y.toNat : Int)] 5)).drew ∧ StrAt W3.heap.size 1 1 [y] ((W3.alloc (.cells #[.int .u8 (y.toNat : Int)] 5)).alloc (.cells #[.int .u8 (y.toNat : Int)] 5)).drew)) ∧ ((convert 84 9 (.slice (some ⟨W3.heap.size + 1, 0, none⟩) 1 1)).run Try.prog ((W3.alloc (.cells #[.int .u8 (y.toNat : Int)] 5)).alloc (.cells #[.int .u8 (y.toNat : Int)] 5)).drew = .ok (.string ⟨#[y]⟩) ((W3.alloc (.cells #[.int .u8 (y.toNat : Int)] 5)).alloc (.cells #[.int .u8 (y.toNat : Int)] 5)).drew ∧ StrAt (W3.heap.size + 1) 1 1 [y] ((W3.alloc (.cells #[.int .u8 (y.toNat : Int)] 5)).alloc (.cells #[.int .u8 (y.toNat : Int)] 5)).drew) := ⟨hHeld3, one_pair2 y W3 _⟩
        (refine wpAnyH_take (i := 27) (v := ?_) rfl (by kernel_rfl) (by kernel_rfl) (by kernel_rfl) (fun _ _ _ h => h) (Or.inl ⟨by rfl, ?_⟩) hHeld4 ?_; rotate_left 1; focus (intro w hSw; (try dsimp only at hSw); go_simp; try with_reducible rfl)); (try simp only [Act.put, List.setIfInBounds_toArray, List.set_cons_zero, List.set_cons_succ])
        (refine wpAnyH_take (i := 28) (v := ?_) rfl (by kernel_rfl) (by kernel_rfl) (by kernel_rfl) (fun _ _ _ h => h) (Or.inl ⟨by rfl, ?_⟩) hHeld4 ?_; rotate_left 1; focus (intro w hSw; (try dsimp only at hSw); go_simp; try with_reducible rfl)); (try simp only [Act.put, List.setIfInBounds_toArray, List.set_cons_zero, List.set_cons_succ])
        refine wpAnyH_ready (rs := [29]) (by kernel_rfl) (by simp) ?_
        refine AllReadyH.cons rfl (fun K hK => ?_) AllReadyH.nil
        go_simp
        refine hK.out _ _ (by first | exact ⟨⟨StrAt.stepd hHeld4.1.1, StrAt.stepd hHeld4.1.2⟩, StrAt.stepd hHeld4.2⟩ | exact ⟨⟨StrAt.step hHeld4.1.1, StrAt.step hHeld4.1.2⟩, StrAt.step hHeld4.2⟩) (fun hHeld5 => ?_)
        clear hK K
        refine wpAnyH_ready (rs := [30]) (by kernel_rfl) (by simp) ?_
        refine AllReadyH.cons rfl (fun K hK => ?_) AllReadyH.nil
        go_simp
        refine hK.out _ _ hHeld5 (fun hHeld6 => ?_)
        clear hK K
        refine wpAnyH_done (by kernel_rfl) ?_ _
        go_wp2_with fail
        go_meet
        exact ⟨sixStr_of bel3 _ _ _ _ _ _ _ _ (six_sizes s k 12 y L hs1 (by omega) (by omega) HL.out), rfl, rfl⟩
      · go_simp
        refine hK.out _ _ (by first | exact StrAt.stepd hHeld | exact StrAt.step hHeld) (fun hHeld1 => ?_)
        clear hK K
        refine wpAnyH_weaken (S' := fun w' => ((convert 84 9 (.slice (some ⟨g0, 0, none⟩) 12 c)).run Try.prog w' = .ok (.string ⟨L.toArray⟩) w' ∧ StrAt g0 12 c L w') ∧ ((convert 84 9 (.slice (some ⟨W3.heap.size, 0, none⟩) 1 1)).run Try.prog w' = .ok (.string ⟨#[y]⟩) w' ∧ StrAt W3.heap.size 1 1 [y] w')) (fun w h => h.1) _ _ _ _ ?_
        have hHeld2 : ((convert 84 9 (.slice (some ⟨g0, 0, none⟩) 12 c)).run Try.prog (W3.alloc (.cells #[.int .u8 (y.toNat : Int)] 5)).drew = .ok (.string ⟨L.toArray⟩) (W3.alloc (.cells #[.int .u8 (y.toNat : Int)] 5)).drew ∧ StrAt g0 12 c L (W3.alloc (.cells #[.int .u8 (y.toNat : Int)] 5)).drew) ∧ ((convert 84 9 (.slice (some ⟨W3.heap.size, 0, none⟩) 1 1)).run Try.prog (W3.alloc (.cells #[.int .u8 (y.toNat : Int)] 5)).drew = .ok (.string ⟨#[y]⟩) (W3.alloc (.cells #[.int .u8 (y.toNat : Int)] 5)).drew ∧ StrAt W3.heap.size 1 1 [y] (W3.alloc (.cells #[.int .u8 (y.toNat : Int)] 5)).drew) := ⟨hHeld1, one_pair y W3⟩
        (refine wpAnyH_take (i := 27) (v := ?_) rfl (by kernel_rfl) (by kernel_rfl) (by kernel_rfl) (fun _ _ _ h => h) (Or.inl ⟨by rfl, ?_⟩) hHeld2 ?_; rotate_left 1; focus (intro w hSw; (try dsimp only at hSw); go_simp; try with_reducible rfl)); (try simp only [Act.put, List.setIfInBounds_toArray, List.set_cons_zero, List.set_cons_succ])
        (refine wpAnyH_take (i := 28) (v := ?_) rfl (by kernel_rfl) (by kernel_rfl) (by kernel_rfl) (fun _ _ _ h => h) (Or.inl ⟨by rfl, ?_⟩) hHeld2 ?_; rotate_left 1; focus (intro w hSw; (try dsimp only at hSw); go_simp; try with_reducible rfl)); (try simp only [Act.put, List.setIfInBounds_toArray, List.set_cons_zero, List.set_cons_succ])
        refine wpAnyH_ready (rs := [15]) (by kernel_rfl) (by simp) ?_
        refine AllReadyH.cons rfl (fun K hK => ?_) AllReadyH.nil
        go_simp
        refine hK.out _ _ (by first | exact ⟨StrAt.stepd hHeld2.1, StrAt.stepd hHeld2.2⟩ | exact ⟨StrAt.step hHeld2.1, StrAt.step hHeld2.2⟩) (fun hHeld3 => ?_)
        clear hK K
        refine wpAnyH_weaken (S' := fun w' => (((convert 84 9 (.slice (some ⟨g0, 0, none⟩) 12 c)).run Try.prog w' = .ok (.string ⟨L.toArray⟩) w' ∧ StrAt g0 12 c L w') ∧ ((convert 84 9 (.slice (some ⟨W3.heap.size, 0, none⟩) 1 1)).run Try.prog w' = .ok (.string ⟨#[y]⟩) w' ∧ StrAt W3.heap.size 1 1 [y] w')) ∧ ((convert 84 9 (.slice (some ⟨W3.heap.size + 1, 0, none⟩) 1 1)).run Try.prog w' = .ok (.string ⟨#[y]⟩) w' ∧ StrAt (W3.heap.size + 1) 1 1 [y] w')) (fun w h => h.1) _ _ _ _ ?_
        have hHeld4 : (((convert 84 9 (.slice (some ⟨g0, 0, none⟩) 12 c)).run Try.prog ((W3.alloc (.cells #[.int .u8 (y.toNat : Int)] 5)).alloc (.cells #[.int .u8 (y.toNat : Int)] 5)).drew = .ok (.string ⟨L.toArray⟩) ((W3.alloc (.cells #[.int .u8 (y.toNat : Int)] 5)).alloc (.cells #[.int .u8 (y.toNat : Int)] 5)).drew ∧ StrAt g0 12 c L ((W3.alloc (.cells #[.int .u8 (y.toNat : Int)] 5)).alloc (.cells #[.int .u8 (y.toNat : Int)] 5)).drew) ∧ ((convert 84 9 (.slice (some ⟨W3.heap.size, 0, none⟩) 1 1)).run Try.prog ((W3.alloc (.cells #[.int .u8 (y.toNat : Int)] 5)).alloc (.cells #[.int .u8 (y.toNat : Int)] 5)).drew = .ok (.string ⟨#[y]⟩) ((W3.alloc (.cells #[.int .u8 (y.toNat : Int)] 5)).alloc (.cells #[.int .u8 (y.toNat : Int)] 5)).drew ∧ StrAt W3.heap.size 1 1 [y] ((W3.alloc (.cells #[.int .u8 (y.toNat : Int)] 5)).alloc (.cells #[.int .u8 (y.toNat : Int)] 5)).drew)) ∧ ((convert 84 9 (.slice (some ⟨W3.heap.size + 1, 0, none⟩) 1 1)).run Try.prog ((W3.alloc (.cells #[.int .u8 (y.toNat : Int)] 5)).alloc (.cells #[.int .u8 (y.toNat : Int)] 5)).drew = .ok (.string ⟨#[y]⟩) ((W3.alloc (.cells #[.int .u8 (y.toNat : Int)] 5)).alloc (.cells #[.int .u8 (y.toNat : Int)] 5)).drew ∧ StrAt (W3.heap.size + 1) 1 1 [y] ((W3.alloc (.cells #[.int .u8 (y.toNat : Int)] 5)).alloc (.cells #[.int .u8 (y.toNat : Int)] 5)).drew) := ⟨hHeld3, one_pair2 y W3 _⟩
        (refine wpAnyH_take (i := 16) (v := ?_) rfl (by kernel_rfl) (by kernel_rfl) (by kernel_rfl) (fun _ _ _ h => h) (Or.inl ⟨by rfl, ?_⟩) hHeld4 ?_; rotate_left 1; focus (intro w hSw; (try dsimp only at hSw); go_simp; try with_reducible rfl)); (try simp only [Act.put, List.setIfInBounds_toArray, List.set_cons_zero, List.set_cons_succ])
        (refine wpAnyH_take (i := 17) (v := ?_) rfl (by kernel_rfl) (by kernel_rfl) (by kernel_rfl) (fun _ _ _ h => h) (Or.inl ⟨by rfl, ?_⟩) hHeld4 ?_; rotate_left 1; focus (intro w hSw; (try dsimp only at hSw); go_simp; try with_reducible rfl)); (try simp only [Act.put, List.setIfInBounds_toArray, List.set_cons_zero, List.set_cons_succ])
        (refine wpAnyH_take (i := 21) (v := ?_) rfl (by kernel_rfl) (by kernel_rfl) (by kernel_rfl) (fun _ _ _ h => h) (Or.inl ⟨by rfl, ?_⟩) hHeld4 ?_; rotate_left 1; focus (intro w hSw; (try dsimp only at hSw); go_simp; try with_reducible rfl)); (try simp only [Act.put, List.setIfInBounds_toArray, List.set_cons_zero, List.set_cons_succ])
        refine wpAnyH_ready (rs := [29]) (by kernel_rfl) (by simp) ?_
        refine AllReadyH.cons rfl (fun K hK => ?_) AllReadyH.nil
        go_simp
        refine hK.out _ _ (by first | exact ⟨⟨StrAt.stepd hHeld4.1.1, StrAt.stepd hHeld4.1.2⟩, StrAt.stepd hHeld4.2⟩ | exact ⟨⟨StrAt.step hHeld4.1.1, StrAt.step hHeld4.1.2⟩, StrAt.step hHeld4.2⟩) (fun hHeld5 => ?_)
        clear hK K
        refine wpAnyH_ready (rs := [30]) (by kernel_rfl) (by simp) ?_
        refine AllReadyH.cons rfl (fun K hK => ?_) AllReadyH.nil
        go_simp
        refine hK.out _ _ hHeld5 (fun hHeld6 => ?_)
        clear hK K
        refine wpAnyH_done (by kernel_rfl) ?_ _
        go_wp2_with fail
        go_meet
        exact ⟨sixStr_of bel3 _ _ _ _ _ _ _ _ (six_sizes s k 12 y L hs1 (by omega) (by omega) HL.out), rfl, rfl⟩
    case rest =>
      obtain ⟨⟨gg, rfl, hgW, BELW0, hX⟩, rfl, rfl⟩ := hcut
      obtain ⟨W, hW⟩ : ∃ W, W = wc := ⟨_, rfl⟩
      subst hW
      have BELW := Lib.hid BELW0
      clear hq0 hq1 hq2 BELW0 SA HL HC HX HG hk3 hk4 hk5 hkw hk10 hk11 hk12 hk13 hk14 hk15 hk16 hk17
      go_wp2_with fail
      go_loopw [81] (fun i wr => ∃ p : Nat, i = .int .i64 p ∧ p ≤ 6 ∧ Below W.heap.size W wr) (fun i _ => 6 - (intOf i).toNat)
      case atStart => exact ⟨0, rfl, by omega, Below.refl _ _⟩
      case round =>
        obtain ⟨p, rfl, hp, hbel⟩ := hrel
        have hs := hbel.size
        by_cases hlt : p < 6
        · obtain ⟨xx, hx, hxs⟩ := hX p hlt
          have hc0 : wr.cell? ⟨gg, p, none⟩ = some (.string xx) := (hbel.cell (p := ⟨gg, p, none⟩) hgW).trans hx
          have HX := Lib.hid hX
          obtain ⟨ta, wa, ok, hv⟩ := sigV_split xx.data.toList
          have HV := Lib.hid hv
          clear hX hx hv
          go_wp2_with (first
            | (go_at_call 39; (with_reducible refine (parse_any xx _ hxs).mono ?_); rintro e w2 ⟨rfl, bel2'⟩; rw [HV.out]; have BEL2 := Lib.hid bel2'; have hs2 := bel2'.size; clear bel2')
            | (go_at_call 40; (with_reducible refine (refparse_any xx _ hxs).mono ?_); rintro e w3 ⟨rfl, bel3'⟩; rw [HV.out]; have f0 : w3.cell? ⟨w2.heap.size, 0, none⟩ = some (.int .i64 ta) := (bel3'.cell (p := ⟨w2.heap.size, 0, none⟩) (by simp)).trans (by simp [go_sem]); have f1 : w3.cell? ⟨w2.heap.size, 1, none⟩ = some (.int .i64 wa) := (bel3'.cell (p := ⟨w2.heap.size, 1, none⟩) (by simp)).trans (by simp [go_sem]); have hs3 : w2.heap.size < w3.heap.size := (by have h33 := bel3'.size; simp at h33; omega); have BEL3 := Lib.hid bel3'; clear bel3')
            | fail)
          go_roundw
          case rel =>
            refine ⟨p + 1, by go_num, by omega, hbel.trans (Below.mono ?_ hs)⟩
            exact ((BEL2.out.alloc hs2 _).trans (BEL3.out.mono (by simp; omega))).alloc (by omega) _
          case measure => simp [intOf]; omega
        · go_wp2_with (first
            | (go_at_call 38; (with_reducible refine (awake13_any _).mono ?_); rintro e w5 ⟨rfl, bel5⟩)
            | fail)
          go_ret
          exact ⟨rfl, BELW.out.trans ((hbel.trans (bel5.mono hs)).mono BELW.out.size)⟩
end Go.Proofs.Ytojjeogpggielaa
