/- crc.Sum and the reference's Sum, awake, and the walks of the laws CrcSums and CrcMore. -/
import Derived.Test.YtmnjjmgdeiejkaaCrc
import Derived.Lib.SlBytesConst
namespace Go.Proofs.Ytmnjjmgdeiejkaa
open Go.RowKit

set_option maxHeartbeats 400000 in
theorem sum_any (A : Option Addr) (n c : Nat) (L : List (List UInt8)) (w : World) (S : Nat → Prop) (h : IsSl (sliceRep byteRep) w S A n L) (hm : n ≤ maxLen) :
    Calls Try.prog 24 #[.slice A n c] w fun e w' => e = .returned (.int .u32 (sumC L : Int)) ∧ w = w' := by
  unfold maxLen at hm
  have HL := Lib.hid h.len
  go_enter Try.func24, Try.ntmps24
  go_wp2
  go_loop [3, 8] (fun u i => ∃ k : Nat, k ≤ n ∧ i = .int .i64 k ∧ u = .int .u32 (((L.take k).foldl moreC 0 : Nat) : Int)) (fun _ i => n - (intOf i).toNat)
  case atStart => exact ⟨0, Nat.zero_le _, rfl, rfl⟩
  case round =>
    obtain ⟨k, hk, rfl, rfl⟩ := hrel
    have hx2 := sumC_lt (L.take k) 0 (by omega)
    obtain ⟨y, hy⟩ : ∃ y, y = (L.take k).foldl moreC 0 := ⟨_, rfl⟩
    rw [← hy] at hx2 ⊢
    have HY := Lib.hid hy
    clear hy
    by_cases hlt : k < n
    · obtain ⟨b, off, x, cs, rfl, hbS, hx, ⟨A2, n2, c2, rfl, h2, h3, h4⟩, hc⟩ := h.at_ hlt
      have hc0 : w.cell? ⟨b, off + k, none⟩ = some (.slice A2 n2 c2) := by have := hc 0 _ rfl; simpa [sliceRep] using this
      have HX := Lib.hid hx
      have H2 := Lib.hid h2
      have hn2 : n2 ≤ maxLen := Nat.le_trans h3 h4
      clear hc hx h h2
      go_wp2_with (go_at_call 27; (with_reducible refine (more_any y A2 n2 c2 x _ _ hx2 H2.out hn2).mono ?_); rintro e w' ⟨rfl, rfl⟩)
      go_round
      case rel => exact ⟨k + 1, by omega, by go_num, by rw [foldl_take_succ HX.out, ← HY.out]⟩
      case measure => simp [intOf]; omega
    · have hge : n ≤ k := by omega
      go_wp2
      go_ret
      exact ⟨by rw [HY.out, List.take_of_length_le (by rw [← HL.out]; exact hge)]; rfl, rfl⟩

theorem refsum_any (A : Option Addr) (n c : Nat) (l : List UInt8) (w : World) (S : Nat → Prop) (h : IsSl byteRep w S A n l) (hm : n ≤ maxLen) :
    Calls Try.prog 25 #[.slice A n c] w fun e w' => e = .returned (.int .u32 (moreC 0 l : Int)) ∧ w = w' := by
  have h0 : 0 < 4294967296 := by omega
  have H := Lib.hid h
  clear h
  go_enter Try.func25, Try.ntmps25
  go_wp2_with (go_at_call 26; (refine (refmore_any 0 A n c l _ _ h0 H.out hm).mono ?_); rintro e w' ⟨rfl, rfl⟩)
  go_ret
  exact ⟨rfl, rfl⟩

/-- A slice that has just been laid, of one slice. -/
theorem IsSl.lit1 {α : Type} {R : Rep α} {w : World} {S : Nat → Prop} {e : TypeId} {A : Option Addr} {n c : Nat} {l : List α} (h : IsSl R w S A n l) (h1 : n ≤ c) (h2 : c ≤ maxLen) (hS : ∀ b, S b → b < w.heap.size) :
    IsSl (sliceRep R) (w.alloc (.cells #[.slice A n c] e)) (fun b => S b ∨ b = w.heap.size) (some ⟨w.heap.size, 0, none⟩) 1 [l] := by
  refine ⟨rfl, [[.slice A n c]], Rows.single ⟨A, n, c, rfl, ?_, h1, h2⟩, fun _ => ⟨w.heap.size, 0, rfl, .inr rfl, fun j u hu => ?_⟩⟩
  · exact (h.keep fun p hp => World.cell?_of_block (Below.heap_alloc w _ p.block (hS _ hp))).weak fun _ hb => .inl hb
  · rw [Nat.zero_add, World.cell?_alloc_at _ _ _ _ rfl]
    simpa using hu

/-- .. of two slices. -/
theorem IsSl.lit2 {α : Type} {R : Rep α} {w : World} {S : Nat → Prop} {e : TypeId} {A A' : Option Addr} {n c n' c' : Nat} {l l' : List α} (h : IsSl R w S A n l) (h1 : n ≤ c) (h2 : c ≤ maxLen) (h' : IsSl R w S A' n' l') (h1' : n' ≤ c') (h2' : c' ≤ maxLen) (hS : ∀ b, S b → b < w.heap.size) :
    IsSl (sliceRep R) (w.alloc (.cells #[.slice A n c, .slice A' n' c'] e)) (fun b => S b ∨ b = w.heap.size) (some ⟨w.heap.size, 0, none⟩) 2 [l, l'] := by
  have hk : ∀ p : Addr, S p.block → (w.alloc (.cells #[.slice A n c, .slice A' n' c'] e)).cell? p = w.cell? p := fun p hp => World.cell?_of_block (Below.heap_alloc w _ p.block (hS _ hp))
  refine ⟨rfl, [[.slice A n c]] ++ [[.slice A' n' c']], Rows.append (l := [l]) (l' := [l']) (Rows.single ⟨A, n, c, rfl, ?_, h1, h2⟩) (Rows.single ⟨A', n', c', rfl, ?_, h1', h2'⟩), fun _ => ⟨w.heap.size, 0, rfl, .inr rfl, fun j u hu => ?_⟩⟩
  · exact (h.keep hk).weak fun _ hb => .inl hb
  · exact (h'.keep hk).weak fun _ hb => .inl hb
  · rw [Nat.zero_add, World.cell?_alloc_at _ _ _ _ rfl]
    simpa using hu

theorem sum1_any {A : Option Addr} {n c g : Nat} {l : List UInt8} {w : World} {S : Nat → Prop} {e : TypeId} (hg : w.heap.size = g) (h : IsSl byteRep w S A n l) (h1 : n ≤ c) (h2 : c ≤ maxLen) (hS : ∀ b, S b → b < w.heap.size) :
    Calls Try.prog 24 #[.slice (some ⟨g, 0, none⟩) 1 1] (w.alloc (.cells #[.slice A n c] e)) fun e1 w' => e1 = .returned (.int .u32 (moreC 0 l : Int)) ∧ w.alloc (.cells #[.slice A n c] e) = w' := by
  subst hg
  exact sum_any _ _ _ _ _ _ (h.lit1 h1 h2 hS) (by simp [maxLen])

theorem sum2_any {A A' : Option Addr} {n c n' c' g : Nat} {l l' : List UInt8} {w : World} {S : Nat → Prop} {e : TypeId} (hg : w.heap.size = g) (h : IsSl byteRep w S A n l) (h1 : n ≤ c) (h2 : c ≤ maxLen) (h' : IsSl byteRep w S A' n' l') (h1' : n' ≤ c') (h2' : c' ≤ maxLen) (hS : ∀ b, S b → b < w.heap.size) :
    Calls Try.prog 24 #[.slice (some ⟨g, 0, none⟩) 2 2] (w.alloc (.cells #[.slice A n c, .slice A' n' c'] e)) fun e1 w' => e1 = .returned (.int .u32 (moreC (moreC 0 l) l' : Int)) ∧ w.alloc (.cells #[.slice A n c, .slice A' n' c'] e) = w' := by
  subst hg
  exact sum_any _ _ _ _ _ _ (IsSl.lit2 h h1 h2 h' h1' h2' hS) (by simp [maxLen])

theorem sumNil_any (w : World) : Calls Try.prog 24 #[.slice none 0 0] w fun e1 w' => e1 = .returned (.int .u32 0) ∧ w = w' :=
  sum_any none 0 0 [] w (fun _ => False) IsSl.nil (by simp [maxLen])

theorem digits_sum : (moreC 0 [49, 50, 51, 52, 53, 54, 55, 56, 57] : Int) = 3421780262 := by decide +kernel

theorem flatten_single {α β : Type} (f : α → β) : ∀ l : List α, (l.map fun b => [f b]).flatten = l.map f
  | [] => rfl
  | b :: t => by rw [List.map_cons, List.flatten_cons, flatten_single f t]; rfl

/-- Bytes that have just been laid. -/
theorem IsSl.bytes {w : World} {S : Nat → Prop} {e : TypeId} {fr : Nat × Nat} {xs : Array Value} {bs : List UInt8} (hx : xs.toList = bs.map fun b => Value.int .u8 (b.toNat : Int)) (hS : S w.heap.size) :
    IsSl byteRep (w.alloc (.cells xs e fr)) S (some ⟨w.heap.size, 0, none⟩) bs.length bs := by
  refine ⟨rfl, bs.map fun b => [Value.int .u8 (b.toNat : Int)], ⟨by simp, fun k a cs ha hc => ?_⟩, fun _ => ⟨w.heap.size, 0, rfl, hS, fun j u hu => ?_⟩⟩
  · simp [ha] at hc
    subst hc
    exact ⟨rfl, trivial⟩
  · rw [Nat.zero_add, cell_of_row _ w.heap.size j xs e fr (heap_alloc_new w _)]
    rw [← hu, ← Array.getElem?_toList, hx]
    rw [flatten_single]

set_option maxHeartbeats 400000 in
theorem awake01_any (w : World) :
    Calls Try.prog 23 #[] w fun e w' => e = .returned (.bool true) ∧ Below w.heap.size w w' := by
  have hd := Lib.hid digits_sum
  have HSL := Lib.hid (show IsSl byteRep (w.alloc (.cells #[.int .u8 49, .int .u8 50, .int .u8 51, .int .u8 52, .int .u8 53, .int .u8 54, .int .u8 55, .int .u8 56, .int .u8 57] 5 (9, 10))) (· < w.heap.size + 1) (some ⟨w.heap.size, 0, none⟩) 9 [49, 50, 51, 52, 53, 54, 55, 56, 57] from IsSl.bytes (w := w) (S := (· < w.heap.size + 1)) (e := 5) (fr := (9, 10)) (xs := #[.int .u8 49, .int .u8 50, .int .u8 51, .int .u8 52, .int .u8 53, .int .u8 54, .int .u8 55, .int .u8 56, .int .u8 57]) (bs := [49, 50, 51, 52, 53, 54, 55, 56, 57]) rfl (by omega))
  have kc := fun (w : World) (C : Array Value) (n c : Nat) => Lib.run_convert_bytes_const (P := Try.prog) w 36 5 C n c Try.underlying36 Try.underlying5
  go_enter Try.func23, Try.ntmps23
  go_wp2_with (first
    | (go_at_call 24; (with_reducible refine (sum1_any (c := 9) (by simp) HSL.out (by omega) (by simp [maxLen]) (fun b hb => by simpa using hb)).mono ?_); rintro e w' ⟨rfl, rfl⟩; rw [hd.out])
    | (go_at_call 24; (with_reducible refine (sumNil_any _).mono ?_); rintro e w' ⟨rfl, rfl⟩))
  go_ret
  exact ⟨rfl, ((Below.refl _ _).alloc (Nat.le_refl _) _).alloc (by simp) _⟩

set_option maxHeartbeats 1000000 in
theorem crcSums_walk (w : World) (A0 : Option Addr) (n0 c0 : Nat) (l0 : List UInt8) (h0 : IsSl byteRep w (· < w.heap.size) A0 n0 l0) (hc0 : n0 ≤ c0) (hm0 : c0 ≤ maxLen) (A1 : Option Addr) (n1 c1 : Nat) (l1 : List UInt8) (h1 : IsSl byteRep w (· < w.heap.size) A1 n1 l1) (hc1 : n1 ≤ c1) (hm1 : c1 ≤ maxLen) :
    Calls Try.prog 6 #[.slice A0 n0 c0, .slice A1 n1 c1] w fun e w' => e = .returned (.bool true) ∧ Below w.heap.size w w' := by
  have hn0 := Nat.le_trans hc0 hm0
  have hn1 := Nat.le_trans hc1 hm1
  have b0 := moreC_lt 0 l0 (by omega)
  have H0 := Lib.hid h0
  have H1 := Lib.hid h1
  clear h0 h1
  go_enter Try.func6, Try.ntmps6
  go_wp2_with (first
    | (go_at_call 23; (with_reducible refine (awake01_any _).mono ?_); rintro e w1 ⟨rfl, hb1⟩; have hz := hb1.size; have hb2 : Below w.heap.size w (w1.alloc (.cells #[.slice A0 n0 c0] 36)) := hb1.alloc hz _; have hb3 : Below w.heap.size w ((w1.alloc (.cells #[.slice A0 n0 c0] 36)).alloc (.cells #[.slice A0 n0 c0, .slice A1 n1 c1] 36)) := hb2.alloc hb2.size _; have hb4 : Below w.heap.size w (((w1.alloc (.cells #[.slice A0 n0 c0] 36)).alloc (.cells #[.slice A0 n0 c0, .slice A1 n1 c1] 36)).alloc (.cells #[.slice A0 n0 c0] 36)) := hb3.alloc hb3.size _)
    | (go_at_call 24; (with_reducible refine (sum1_any (by simp) (H0.out.below hb1) hc0 hm0 (fun b hb => Nat.lt_of_lt_of_le hb hb1.size)).mono ?_); rintro e w' ⟨rfl, rfl⟩)
    | (go_at_call 24; (with_reducible refine (sum2_any (by simp) (H0.out.below hb2) hc0 hm0 (H1.out.below hb2) hc1 hm1 (fun b hb => Nat.lt_of_lt_of_le hb hb2.size)).mono ?_); rintro e w' ⟨rfl, rfl⟩)
    | (go_at_call 24; (with_reducible refine (sum1_any (by simp) (H0.out.below hb3) hc0 hm0 (fun b hb => Nat.lt_of_lt_of_le hb hb3.size)).mono ?_); rintro e w' ⟨rfl, rfl⟩)
    | (go_at_call 24; (with_reducible refine (sum2_any (by simp) (H0.out.below hb4) hc0 hm0 (H1.out.below hb4) hc1 hm1 (fun b hb => Nat.lt_of_lt_of_le hb hb4.size)).mono ?_); rintro e w' ⟨rfl, rfl⟩)
    | (go_at_call 25; (first | (with_reducible refine (refsum_any _ _ _ _ _ _ (H0.out.below hb2) hn0).mono ?_) | (with_reducible refine (refsum_any _ _ _ _ _ _ (H0.out.below hb3) hn0).mono ?_)); rintro e w' ⟨rfl, rfl⟩)
    | (go_at_call 26; (with_reducible refine (refmore_any _ _ _ _ _ _ _ b0 (H1.out.below hb3) hn1).mono ?_); rintro e w' ⟨rfl, rfl⟩)
    | (go_at_call 27; (with_reducible refine (more_any _ _ _ _ _ _ _ b0 (H1.out.below hb4) hn1).mono ?_); rintro e w' ⟨rfl, rfl⟩))
  go_ret
  exact ⟨rfl, hb4.alloc hb4.size _⟩

theorem moreC_nil (s : Nat) : moreC s [] = s := by
  show (4294967295 ^^^ s) ^^^ 4294967295 = s
  rw [Nat.xor_comm, ← Nat.xor_assoc, Nat.xor_self, Nat.zero_xor]

set_option maxHeartbeats 1000000 in
theorem crcMore_walk (w : World) (s : Int) (hs : (Lit.int .u32 s).wf = true) (A0 : Option Addr) (n0 c0 : Nat) (l0 : List UInt8) (h0 : IsSl byteRep w (· < w.heap.size) A0 n0 l0) (hc0 : n0 ≤ c0) (hm0 : c0 ≤ maxLen) :
    Calls Try.prog 7 #[.int .u32 s, .slice A0 n0 c0] w fun e w' => e = .returned (.bool true) ∧ Below w.heap.size w w' := by
  have hs' : 0 ≤ s ∧ s < 4294967296 := by
    simp [Lit.wf, IntKind.min, IntKind.max, IntKind.bits, IntKind.signed] at hs
    omega
  obtain ⟨s, rfl⟩ := Int.eq_ofNat_of_zero_le hs'.1
  have b0 : s < 4294967296 := by omega
  have hn0 := Nat.le_trans hc0 hm0
  have hz : (0 : Nat) ≤ maxLen := Nat.zero_le _
  have hnil := Lib.hid (moreC_nil s)
  have H0 := Lib.hid h0
  clear h0 hs' hs
  go_enter Try.func7, Try.ntmps7
  go_wp2_with (first
    | (go_at_call 23; (with_reducible refine (awake01_any _).mono ?_); rintro e w1 ⟨rfl, hb1⟩)
    | (go_at_call 27; (with_reducible refine (more_any s A0 n0 c0 l0 _ _ b0 (H0.out.below hb1) hn0).mono ?_); rintro e w' ⟨rfl, rfl⟩)
    | (go_at_call 26; (with_reducible refine (refmore_any s A0 n0 c0 l0 _ _ b0 (H0.out.below hb1) hn0).mono ?_); rintro e w' ⟨rfl, rfl⟩)
    | (go_at_call 27; (with_reducible refine (more_any s none 0 0 [] w1 (fun _ => False) b0 IsSl.nil hz).mono ?_); rintro e w' ⟨rfl, rfl⟩; rw [hnil.out]))
  go_ret
  exact ⟨rfl, hb1⟩
end Go.Proofs.Ytmnjjmgdeiejkaa
