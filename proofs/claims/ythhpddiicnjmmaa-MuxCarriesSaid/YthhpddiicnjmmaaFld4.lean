/- Contract: field.Decode. -/
import Derived.Test.YthhpddiicnjmmaaFld3
import Derived.Handy
namespace Go.Proofs.Ythhpddiicnjmmaa
open Go.RowKit

theorem RdrIs.new {w : World} {A : Option Addr} {n c : Nat} {b : List UInt8} (h : IsSl byteRep w (· < w.heap.size) A n b) (h1 : n ≤ c) (h2 : c ≤ maxLen) (t : TypeId) : RdrIs (w.alloc (.cells #[.slice A n c, .int .i64 0] t)) w.heap.size w.heap.size b 0 :=
  ⟨A, n, c, World.cell?_alloc_at _ _ _ _ rfl, World.cell?_alloc_at _ _ _ _ rfl, by rw [frozen?_alloc_cells]; simp [World.frozen?], by rw [frozen?_alloc_cells]; simp [World.frozen?], h.keep fun p hp => ((Below.refl w.heap.size w).alloc (Nat.le_refl _) _).cell hp, h1, h2⟩

theorem info_fld : (Try.prog.info? 41).map (fun i => (i.zero, i.size, i.bytes)) = some (some (.agg #[.int .i64 0, .int .i64 0, .string ByteArray.empty]), 3, 32) := by kernel_rfl

/-- What Decode answers: the fields and the error's number. -/
def decV (b : List UInt8) : List Fld := match decO b with | .ok l => l | .error _ => []
def decE (b : List UInt8) : Int := match decO b with | .ok _ => 0 | .error e => e

/-- So far: what is left decides. -/
def DecInv (b : List UInt8) (k : Nat) (rest : List UInt8) (e : Int) (acc : List Fld) : Prop := (e = 0 ∧ decO b = decN k rest acc) ∨ (e ≠ 0 ∧ decO b = .error e)

theorem decInv_start (b : List UInt8) : DecInv b (mostF b 0 32767).1 (mostF b 0 32767).2.1 (mostF b 0 32767).2.2 [] := by
  unfold DecInv decO
  by_cases hl : b.length < 2
  · rw [mostF_short hl, if_pos hl]; right; simp
  · rw [mostF_ok (by omega), if_neg hl]
    by_cases h : 32767 < numB (b.take 2)
    · rw [if_pos h, if_pos h]; right; simp
    · rw [if_neg h, if_neg h]; left; simp

theorem decInv_step {b rest : List UInt8} {k : Nat} {acc : List Fld} (h : DecInv b (k + 1) rest 0 acc) : DecInv b k (fieldF rest 0).2.1 (fieldF rest 0).2.2 (acc ++ [(fieldF rest 0).1]) := by
  rcases h with ⟨_, h⟩ | ⟨h, _⟩
  · have hf := fieldF_dec rest
    rw [decN] at h
    cases hd : decF rest with
    | error e => rw [hd] at hf h; right; exact ⟨by rw [hf.2]; exact hf.1, by rw [h, hf.2]⟩
    | ok p => rw [hd] at hf h; obtain ⟨f, r⟩ := p; dsimp only at hf h; rw [hf]; left; exact ⟨rfl, h⟩
  · exact absurd rfl h

theorem wrap64_i64 (n : Int) : I64 (wrap64 n) := by unfold I64 wrap64; omega

theorem fieldF_wf (rest : List UInt8) (e : Int) : (fieldF rest e).1.wf := by
  unfold fieldF
  split
  · exact ⟨by unfold I64; dsimp only; omega, wrap64_i64 _, by show 0 ≤ _; omega⟩
  · split
    · refine ⟨by unfold I64; dsimp only; omega, by unfold I64; dsimp only; omega, ?_⟩
      have h1 := nextF_len (mostF (takeF rest e 1).2.1 (takeF rest e 1).2.2 4096).2.1 (mostF (takeF rest e 1).2.1 (takeF rest e 1).2.2 4096).2.2 (mostF (takeF rest e 1).2.1 (takeF rest e 1).2.2 4096).1
      have h2 := mostF_le (takeF rest e 1).2.1 (takeF rest e 1).2.2 4096
      unfold maxLen
      simp only [ByteArray.size, List.size_toArray]
      omega
    · exact ⟨by unfold I64; dsimp only; omega, by unfold I64; dsimp only; omega, by show 0 ≤ _; omega⟩

set_option maxRecDepth 100000 in
set_option maxHeartbeats 2000000 in
theorem decode_any (A : Option Addr) (n c : Nat) (b : List UInt8) (w : World) (h : IsSl byteRep w (· < w.heap.size) A n b) (h1 : n ≤ c) (h2 : c ≤ maxLen) :
    Calls Try.prog 61 #[.slice A n c] w fun e w' => ∃ v, e = .returned (.tuple #[v, .int .i64 (decE b)]) ∧ Own fldRep w' w.heap.size (fun _ => False) 41 v (decV b) ∧ Below w.heap.size w w' := by
  obtain ⟨i0, hi, hz0, hz1, hz2⟩ := info_parts info_fld
  have HN := Lib.hid (fun t => RdrIs.new h h1 h2 t)
  clear h
  go_enter Try.func61, Try.ntmps61
  go_wp2_with (first
    | (go_at_call 124; (with_reducible refine (most_any w.heap.size w.heap.size b 0 32767 32767 rfl _ (HN.out _) (Nat.le_refl _)).mono ?_); rintro ev w3 ⟨rfl, rd3, gr3⟩))
  have hS := decInv_start b
  have hM := mostF_le b 0 32767
  obtain ⟨M, hMM⟩ : ∃ M, M = mostF b 0 32767 := ⟨_, rfl⟩
  rw [← hMM] at hS hM rd3 ⊢
  obtain ⟨k0, r0, e0⟩ := M
  dsimp only at hS hM rd3 ⊢
  have RD3 := Lib.hid rd3
  have HS0 := Lib.hid hS
  have hs3 : w.heap.size + 1 ≤ w3.heap.size := by have := gr3.size; simpa using this
  have bw3 : Below w.heap.size w w3 := (((Below.refl _ _).alloc (Nat.le_refl _) _).grown gr3 (by simp) (fun k hk => by injection hk with hk; omega))
  clear hMM rd3 hS gr3
  go_loopw [5, 6] (fun v i wr => ∃ (k : Nat) (rest : List UInt8) (e : Int) (acc : List Fld), i = .int .i64 k ∧ RdrIs wr w.heap.size w.heap.size rest e ∧ Own fldRep wr (w.heap.size + 1) (fun _ => False) 41 v acc ∧ DecInv b k rest e acc ∧ acc.length + k ≤ 32767 ∧ Below w.heap.size w wr ∧ w.heap.size + 1 ≤ wr.heap.size) (fun _ i _ => (intOf i).toNat)
  case atStart => exact ⟨k0, r0, e0, [], rfl, RD3.out, Own.nil _ _ _ (fun _ h => h.elim) _ _, HS0.out, by simpa using hM, bw3, hs3⟩
  case round =>
    obtain ⟨k, rest, e, acc, rfl, hrd, hown, hinv, hlen, hbel, hsz⟩ := hrel
    have RD := Lib.hid hrd
    have HO := Lib.hid hown
    have HI := Lib.hid hinv
    obtain ⟨A2, n2, c2, c0, c1, z0, z1, sl2, hnc2, hcm2⟩ := hrd
    have SL := Lib.hid sl2
    clear hown hinv sl2
    by_cases he : e = 0
    · subst he
      cases k with
      | zero =>
        by_cases hr : 0 < n2
        · have HE := Lib.hid (show decO b = .error 3 by
            rcases HI.out with ⟨_, h⟩ | ⟨h, _⟩
            · rw [h, decN, if_neg (by intro e; rw [e] at SL; have := SL.out.len; simp at this; omega)]
            · exact absurd rfl h)
          go_wp2
          go_quiet (fail)
          go_wp2
          go_ret2
          exact ⟨_, by unfold decE; rw [HE.out]; rfl, by unfold decV; rw [HE.out]; exact Own.nil _ _ _ (fun _ h => h.elim) _ _, below_drewN (hbel.setCell (Nat.le_refl _) _) _⟩
        · obtain rfl : n2 = 0 := by omega
          have HE := Lib.hid (show decO b = .ok acc by
            rcases HI.out with ⟨_, h⟩ | ⟨h, _⟩
            · rw [h, decN, if_pos (List.eq_nil_of_length_eq_zero SL.out.len.symm)]
            · exact absurd rfl h)
          go_wp2
          go_ret2
          exact ⟨_, by unfold decE; rw [HE.out]; rfl, by unfold decV; rw [HE.out]; exact HO.out.mono (by omega), hbel⟩
      | succ k =>
        have hwf := fieldF_wf rest 0
        have hst := decInv_step HI.out
        obtain ⟨X, hX⟩ : ∃ X, X = fieldF rest 0 := ⟨_, rfl⟩
        rw [← hX] at hwf hst
        obtain ⟨f, r, e2⟩ := X
        dsimp only at hwf hst
        have HX := Lib.hid hX
        have HST := Lib.hid hst
        have HWF := Lib.hid hwf
        clear hX hst hwf c0 z0 z1
        go_wp2_with (first
          | (go_at_call 125; (with_reducible refine (rfield_any w.heap.size w.heap.size rest 0 _ RD.out (Nat.le_refl _)).mono ?_); rintro ev w4 ⟨rfl, rd4, gr4⟩; rw [← HX.out] at rd4 ⊢; rw [show Value.agg (f, r, e2).1.cells.toArray = .agg #[.int .i64 f.kind, .int .i64 f.n, .string f.s] from rfl]; have RD4 := Lib.hid rd4; have OW4 := Lib.hid (HO.out.kept gr4 (fun g' hg' => ⟨fun hr => absurd (HO.out.row_ge hr) (by injection hg' with hg'; omega), id⟩)); have hs4 : w.heap.size + 1 ≤ w4.heap.size := Nat.le_trans hsz gr4.size; have bw4 : Below w.heap.size w w4 := hbel.grown gr4 (by omega) (fun k hk => by injection hk with hk; omega); clear rd4 gr4)
          | (at_builtin; (refine wpList_append_Own _ rfl _ _ 38 rfl (w.heap.size + 1) 41 i0 _ 32 Try.underlying38 hi hz0 hz1 hz2 rfl (R := fldRep) (S := fun _ => False) (l := acc) (l' := [f]) u5 rfl (OW4.out.alloc _) _ 1 1 rfl ?_ (by simp only [maxLen]; omega) (by omega) (by omega) (by simp; omega) ?_; exact Src.one (cs := f.cells) ⟨rfl, HWF.out⟩ (by intro j u hu; rw [World.cell?_alloc_at _ _ _ _ rfl, ← hu]; simp [Fld.cells]); intro v5 w5 own5 gr5 at5; have bw5 := (bw4.alloc (by omega) _).grown gr5 (by simp; omega) (fun g hg => by have := HO.out.row_ge hg; omega); have RD5 := Lib.hid ((RD4.out.alloc (Nat.le_refl _) _).grown (Nat.le_refl _) gr5 (fun g hg => by have := HO.out.row_ge hg; omega)); have hs5 : w.heap.size + 1 ≤ w5.heap.size := (by have := gr5.size; simp at this; omega); clear gr5 at5)))
        go_roundw
        case rel => exact ⟨k, r, e2, acc ++ [f], by go_num, RD5.out, own5, HST.out, by simp; omega, bw5, hs5⟩
        case measure => simp [intOf]
    · have hb : (e == 0) = false := by simpa using he
      have HE := Lib.hid (show decO b = .error e by
        rcases HI.out with ⟨h, _⟩ | ⟨_, h⟩
        · exact absurd h he
        · exact h)
      clear he
      go_wp2
      all_goals
        go_quiet (fail)
        go_wp2
        go_ret2
        exact ⟨_, by unfold decE; rw [HE.out]; rfl, by unfold decV; rw [HE.out]; exact Own.nil _ _ _ (fun _ h => h.elim) _ _, below_drewN hbel _⟩
end Go.Proofs.Ythhpddiicnjmmaa
