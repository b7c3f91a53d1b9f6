/- Contracts: rec.Put and the reference's Put. -/
import Derived.Test.YthhpddiicnjmmaaRec2
set_option maxRecDepth 100000
namespace Go.Proofs.Ythhpddiicnjmmaa
open Go.RowKit

/-- Three slices, just laid into a block of their own. -/
theorem IsSl.lit3 {α : Type} {R : Rep α} {w : World} {e : TypeId} {A A' A'' : Option Addr} {n c n' c' n'' c'' : Nat} {l l' l'' : List α} (h : IsSl R w (· < w.heap.size) A n l) (h1 : n ≤ c) (h2 : c ≤ maxLen) (h' : IsSl R w (· < w.heap.size) A' n' l') (h1' : n' ≤ c') (h2' : c' ≤ maxLen) (h'' : IsSl R w (· < w.heap.size) A'' n'' l'') (h1'' : n'' ≤ c'') (h2'' : c'' ≤ maxLen) :
    IsSl (sliceRep R) (w.alloc (.cells #[.slice A n c, .slice A' n' c', .slice A'' n'' c''] e)) (· < (w.alloc (.cells #[.slice A n c, .slice A' n' c', .slice A'' n'' c''] e)).heap.size) (some ⟨w.heap.size, 0, none⟩) 3 [l, l', l''] := by
  have hb : Below w.heap.size w (w.alloc (.cells #[.slice A n c, .slice A' n' c', .slice A'' n'' c''] e)) := (Below.refl _ _).alloc (Nat.le_refl _) _
  refine ⟨rfl, [[.slice A n c]] ++ ([[.slice A' n' c']] ++ [[.slice A'' n'' c'']]), Rows.append (l := [l]) (l' := [l', l'']) (Rows.single ⟨A, n, c, rfl, (h.below hb).more hb.size, h1, h2⟩) (Rows.append (l := [l']) (l' := [l'']) (Rows.single ⟨A', n', c', rfl, (h'.below hb).more hb.size, h1', h2'⟩) (Rows.single ⟨A'', n'', c'', rfl, (h''.below hb).more hb.size, h1'', h2''⟩)), fun _ => ⟨w.heap.size, 0, rfl, by simp, fun j u hu => ?_⟩⟩
  rw [Nat.zero_add, World.cell?_alloc_at _ _ _ _ rfl]
  simpa using hu

/-- A record's bytes. -/
def putB (p : List UInt8) : List UInt8 := bigB p.length 4 ++ (bigB (recSum p) 4 ++ p)
/-- What Put answers: the bytes and the error's number. -/
def putV (p : List UInt8) : List UInt8 := if p.length ≤ 1048576 then putB p else []
def putE (p : List UInt8) : Int := if p.length ≤ 1048576 then 0 else 1

set_option maxHeartbeats 2000000 in
theorem put_any (A : Option Addr) (n c : Nat) (p : List UInt8) (w : World) (h : IsSl byteRep w (· < w.heap.size) A n p) (h1 : n ≤ c) (h2 : c ≤ maxLen) :
    Calls Try.prog 53 #[.slice A n c] w fun e w' => ∃ v, e = .returned (.tuple #[v, .int .i64 (putE p)]) ∧ Own byteRep w' w.heap.size (fun _ => False) 5 v (putV p) ∧ Below w.heap.size w w' := by
  have H := Lib.hid h
  have HL := Lib.hid h.len
  have hnm : n ≤ 9223372036854775807 := by unfold maxLen at h2; omega
  clear h
  by_cases hbig : 1048576 < n
  · have HE := Lib.hid (show putE p = 1 by unfold putE; rw [← HL.out, if_neg (by omega)])
    have HV := Lib.hid (show putV p = [] by unfold putV; rw [← HL.out, if_neg (by omega)])
    go_enter Try.func53, Try.ntmps53
    go_wp2
    go_ret2
    rw [HE.out, HV.out]
    exact ⟨_, rfl, Own.nil _ _ _ (fun _ h => h.elim) _ _, Below.refl _ _⟩
  · have hn : n ≤ 1048576 := by omega
    have hn1 : n ≤ 1100000 := by omega
    have hn32 : n < 4294967296 := by omega
    have HE := Lib.hid (show putE p = 0 by unfold putE; rw [← HL.out, if_pos hn])
    have HV := Lib.hid (show putV p = putB p by unfold putV; rw [← HL.out, if_pos hn])
    clear hbig
    go_enter Try.func53, Try.ntmps53
    go_wp2_with (first
      | (go_at_call 115; (with_reducible refine (of_any A n c p _ H.out hn1 h1 h2).mono ?_); rintro e w2 ⟨g2, rfl, hg21, hg22, sl2, bel2⟩; have hs2 := bel2.size; have SL2 := Lib.hid sl2; have H2 := Lib.hid ((H.out.below bel2).more hs2); clear sl2)
      | fail)
    obtain ⟨W3, hW3⟩ : ∃ W3, W3 = w2.alloc (.cells #[.slice A n c, .slice (some ⟨g2, 0, none⟩) 4 4] 188) := ⟨_, rfl⟩
    have b3 : Below w2.heap.size w2 W3 := by rw [hW3]; exact (Below.refl _ _).alloc (Nat.le_refl _) _
    have l3 : w2.heap.size < W3.heap.size := by rw [hW3]; simp
    have q0 : W3.cell? ⟨w2.heap.size, 0, none⟩ = some (.slice A n c) := by rw [hW3]; exact World.cell?_alloc_at _ _ _ _ rfl
    have q1 : W3.cell? ⟨w2.heap.size, 1, none⟩ = some (.slice (some ⟨g2, 0, none⟩) 4 4) := by rw [hW3]; exact World.cell?_alloc_at _ _ _ _ rfl
    have SL3 := Lib.hid ((SL2.out.below b3).more b3.size)
    have H3 := Lib.hid ((H2.out.below b3).more b3.size)
    have bw3 : Below w.heap.size w W3 := bel2.trans (b3.mono hs2)
    have hsm : (bigB (recSum p) 4).length = 4 := bigB_len _ _
    have hlens : lensOf [bigB n 4, bigB (recSum p) 4, p] ≤ 100000000000 := by
      unfold lensOf
      simp only [List.flatten_cons, List.flatten_nil, List.append_nil, List.length_append, bigB_len]
      rw [← HL.out]
      omega
    have HFL := Lib.hid (show [bigB n 4, bigB (recSum p) 4, p].flatten = putB p by unfold putB; rw [HL.out]; simp)
    rw [← hW3]
    clear hW3 hsm
    go_region_held3 (fun w' => w'.cell? ⟨w2.heap.size, 0, none⟩ = some (.slice A n c) ∧ w'.cell? ⟨w2.heap.size, 1, none⟩ = some (.slice (some ⟨g2, 0, none⟩) 4 4)) (first | exact ⟨q0, q1⟩ | exact ⟨k0, k1⟩ | exact ⟨kA0 _, kA1 _⟩ | exact ⟨m0, m1⟩)
      (first
        | (go_at_call 117; (with_reducible refine (hsize_any A n c _ hn32).mono ?_); rintro e w4 ⟨g4, rfl, hg41, hg42, sl4, bel4'⟩; have bel4 : Below W3.heap.size W3 w4 := ⟨bel4'.os, bel4'.tape, bel4'.output, bel4'.size, bel4'.block⟩; have hs4 : W3.heap.size ≤ w4.heap.size := bel4.size; have l4 : w2.heap.size < w4.heap.size := Nat.lt_of_lt_of_le l3 hs4; have k0 := (bel4.cell (p := ⟨w2.heap.size, 0, none⟩) l3).trans q0; have k1 := (bel4.cell (p := ⟨w2.heap.size, 1, none⟩) l3).trans q1; have kA0 : ∀ ob : Obj, (w4.alloc ob).cell? ⟨w2.heap.size, 0, none⟩ = some (.slice A n c) := fun ob => (((Below.refl w4.heap.size w4).alloc (Nat.le_refl _) ob).cell (p := ⟨w2.heap.size, 0, none⟩) l4).trans k0; have kA1 : ∀ ob : Obj, (w4.alloc ob).cell? ⟨w2.heap.size, 1, none⟩ = some (.slice (some ⟨g2, 0, none⟩) 4 4) := fun ob => (((Below.refl w4.heap.size w4).alloc (Nat.le_refl _) ob).cell (p := ⟨w2.heap.size, 1, none⟩) l4).trans k1; have SS4 := Lib.hid ((SL3.out.below bel4).more hs4); have SP4 := Lib.hid ((H3.out.below bel4).more hs4); have SZ4 := Lib.hid sl4; have BW4 := Lib.hid (bw3.trans (bel4.mono bw3.size)); clear sl4 bel4 bel4')
        | (go_at_call 116; have K5 := concat_any (some ⟨w4.heap.size, 0, none⟩) 3 3 [bigB n 4, bigB (recSum p) 4, p] _ (IsSl.lit3 (e := 25) SZ4.out (Nat.le_refl _) (by unfold maxLen; omega) SS4.out (Nat.le_refl _) (by unfold maxLen; omega) SP4.out h1 h2) (by omega) hlens; (with_reducible refine K5.mono ?_); clear K5; rintro e w5 ⟨v5, rfl, own5, bel5⟩; rw [HFL.out] at own5; have bq5 : Below w4.heap.size w4 w5 := ((Below.refl w4.heap.size w4).alloc (Nat.le_refl _) _).trans (bel5.mono (by simp)); have m0 := (bq5.cell (p := ⟨w2.heap.size, 0, none⟩) l4).trans k0; have m1 := (bq5.cell (p := ⟨w2.heap.size, 1, none⟩) l4).trans k1; have BW5 := Lib.hid (BW4.out.trans (bq5.mono BW4.out.size)); have OW5 := Lib.hid (own5.mono (Nat.le_trans BW4.out.size (by simp))); clear own5 bel5 bq5)
        | fail)
    go_wp2_with fail
    go_ret2
    rw [HE.out, HV.out]
    exact ⟨_, rfl, OW5.out, BW5.out⟩
end Go.Proofs.Ythhpddiicnjmmaa
