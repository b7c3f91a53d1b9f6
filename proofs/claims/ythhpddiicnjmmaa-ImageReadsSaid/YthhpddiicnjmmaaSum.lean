/- crc.Sum and the reference's Sum (the first half of Crc2, for seats without the laws of layer 1). -/
import Derived.Test.YthhpddiicnjmmaaCrc
import Derived.Lib.SlBytesConst
namespace Go.Proofs.Ythhpddiicnjmmaa
open Go.RowKit

set_option maxHeartbeats 400000 in
theorem sum_any (A : Option Addr) (n c : Nat) (L : List (List UInt8)) (w : World) (S : Nat → Prop) (h : IsSl (sliceRep byteRep) w S A n L) (hm : n ≤ maxLen) :
    Calls Try.prog 149 #[.slice A n c] w fun e w' => e = .returned (.int .u32 (sumC L : Int)) ∧ w = w' := by
  unfold maxLen at hm
  have HL := Lib.hid h.len
  go_enter Try.func149, Try.ntmps149
  go_wp2
  go_loop [3, 8] (fun u i => ∃ k : Nat, k ≤ n ∧ i = .int .i64 k ∧ u = .int .u32 (((L.take k).foldl moreC 0 : Nat) : Int)) (fun _ i => n - (intOf i).toNat)
  case atStart => exact ⟨0, Nat.zero_le _, rfl, rfl⟩
  case round =>
    obtain ⟨k, hk, rfl, rfl⟩ := hrel
    have hx2 := sumC_lt (L.take k) 0 (by omega)
    obtain ⟨y, hy⟩ : ∃ y, y = (L.take k).foldl moreC 0 := ⟨_, rfl⟩
    rw [← hy] at hx2 ⊢
    have HY := Lib.hid hy
    clear hy
    by_cases hlt : k < n
    · obtain ⟨b, off, x, cs, rfl, hbS, hx, ⟨A2, n2, c2, rfl, h2, h3, h4⟩, hc⟩ := h.at_ hlt
      have hc0 : w.cell? ⟨b, off + k, none⟩ = some (.slice A2 n2 c2) := by have := hc 0 _ rfl; simpa [sliceRep] using this
      have HX := Lib.hid hx
      have H2 := Lib.hid h2
      have hn2 : n2 ≤ maxLen := Nat.le_trans h3 h4
      clear hc hx h h2
      go_wp2_with (go_at_call 160; (with_reducible refine (more_any y A2 n2 c2 x _ _ hx2 H2.out hn2).mono ?_); rintro e w' ⟨rfl, rfl⟩)
      go_round
      case rel => exact ⟨k + 1, by omega, by go_num, by rw [foldl_take_succ HX.out, ← HY.out]⟩
      case measure => simp [intOf]; omega
    · have hge : n ≤ k := by omega
      go_wp2
      go_ret
      exact ⟨by rw [HY.out, List.take_of_length_le (by rw [← HL.out]; exact hge)]; rfl, rfl⟩

theorem refsum_any (A : Option Addr) (n c : Nat) (l : List UInt8) (w : World) (S : Nat → Prop) (h : IsSl byteRep w S A n l) (hm : n ≤ maxLen) :
    Calls Try.prog 121 #[.slice A n c] w fun e w' => e = .returned (.int .u32 (moreC 0 l : Int)) ∧ w = w' := by
  have h0 : 0 < 4294967296 := by omega
  have H := Lib.hid h
  clear h
  go_enter Try.func121, Try.ntmps121
  go_wp2_with (go_at_call 120; (refine (refmore_any 0 A n c l _ _ h0 H.out hm).mono ?_); rintro e w' ⟨rfl, rfl⟩)
  go_ret
  exact ⟨rfl, rfl⟩

/-- A slice that has just been laid, of one slice. -/
theorem IsSl.lit1 {α : Type} {R : Rep α} {w : World} {S : Nat → Prop} {e : TypeId} {A : Option Addr} {n c : Nat} {l : List α} (h : IsSl R w S A n l) (h1 : n ≤ c) (h2 : c ≤ maxLen) (hS : ∀ b, S b → b < w.heap.size) :
    IsSl (sliceRep R) (w.alloc (.cells #[.slice A n c] e)) (fun b => S b ∨ b = w.heap.size) (some ⟨w.heap.size, 0, none⟩) 1 [l] := by
  refine ⟨rfl, [[.slice A n c]], Rows.single ⟨A, n, c, rfl, ?_, h1, h2⟩, fun _ => ⟨w.heap.size, 0, rfl, .inr rfl, fun j u hu => ?_⟩⟩
  · exact (h.keep fun p hp => World.cell?_of_block (Below.heap_alloc w _ p.block (hS _ hp))).weak fun _ hb => .inl hb
  · rw [Nat.zero_add, World.cell?_alloc_at _ _ _ _ rfl]
    simpa using hu

/-- .. of two slices. -/
theorem IsSl.lit2 {α : Type} {R : Rep α} {w : World} {S : Nat → Prop} {e : TypeId} {A A' : Option Addr} {n c n' c' : Nat} {l l' : List α} (h : IsSl R w S A n l) (h1 : n ≤ c) (h2 : c ≤ maxLen) (h' : IsSl R w S A' n' l') (h1' : n' ≤ c') (h2' : c' ≤ maxLen) (hS : ∀ b, S b → b < w.heap.size) :
    IsSl (sliceRep R) (w.alloc (.cells #[.slice A n c, .slice A' n' c'] e)) (fun b => S b ∨ b = w.heap.size) (some ⟨w.heap.size, 0, none⟩) 2 [l, l'] := by
  have hk : ∀ p : Addr, S p.block → (w.alloc (.cells #[.slice A n c, .slice A' n' c'] e)).cell? p = w.cell? p := fun p hp => World.cell?_of_block (Below.heap_alloc w _ p.block (hS _ hp))
  refine ⟨rfl, [[.slice A n c]] ++ [[.slice A' n' c']], Rows.append (l := [l]) (l' := [l']) (Rows.single ⟨A, n, c, rfl, ?_, h1, h2⟩) (Rows.single ⟨A', n', c', rfl, ?_, h1', h2'⟩), fun _ => ⟨w.heap.size, 0, rfl, .inr rfl, fun j u hu => ?_⟩⟩
  · exact (h.keep hk).weak fun _ hb => .inl hb
  · exact (h'.keep hk).weak fun _ hb => .inl hb
  · rw [Nat.zero_add, World.cell?_alloc_at _ _ _ _ rfl]
    simpa using hu

theorem sum1_any {A : Option Addr} {n c g : Nat} {l : List UInt8} {w : World} {S : Nat → Prop} {e : TypeId} (hg : w.heap.size = g) (h : IsSl byteRep w S A n l) (h1 : n ≤ c) (h2 : c ≤ maxLen) (hS : ∀ b, S b → b < w.heap.size) :
    Calls Try.prog 149 #[.slice (some ⟨g, 0, none⟩) 1 1] (w.alloc (.cells #[.slice A n c] e)) fun e1 w' => e1 = .returned (.int .u32 (moreC 0 l : Int)) ∧ w.alloc (.cells #[.slice A n c] e) = w' := by
  subst hg
  exact sum_any _ _ _ _ _ _ (h.lit1 h1 h2 hS) (by simp [maxLen])

theorem sum2_any {A A' : Option Addr} {n c n' c' g : Nat} {l l' : List UInt8} {w : World} {S : Nat → Prop} {e : TypeId} (hg : w.heap.size = g) (h : IsSl byteRep w S A n l) (h1 : n ≤ c) (h2 : c ≤ maxLen) (h' : IsSl byteRep w S A' n' l') (h1' : n' ≤ c') (h2' : c' ≤ maxLen) (hS : ∀ b, S b → b < w.heap.size) :
    Calls Try.prog 149 #[.slice (some ⟨g, 0, none⟩) 2 2] (w.alloc (.cells #[.slice A n c, .slice A' n' c'] e)) fun e1 w' => e1 = .returned (.int .u32 (moreC (moreC 0 l) l' : Int)) ∧ w.alloc (.cells #[.slice A n c, .slice A' n' c'] e) = w' := by
  subst hg
  exact sum_any _ _ _ _ _ _ (IsSl.lit2 h h1 h2 h' h1' h2' hS) (by simp [maxLen])

theorem sumNil_any (w : World) : Calls Try.prog 149 #[.slice none 0 0] w fun e1 w' => e1 = .returned (.int .u32 0) ∧ w = w' :=
  sum_any none 0 0 [] w (fun _ => False) IsSl.nil (by simp [maxLen])
end Go.Proofs.Ythhpddiicnjmmaa
