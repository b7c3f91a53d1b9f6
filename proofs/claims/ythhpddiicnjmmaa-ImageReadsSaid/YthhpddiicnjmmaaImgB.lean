/- Plain laws of images: what is encoded is decoded; with a byte more, or cut off, it is none. -/
import Derived.Test.YthhpddiicnjmmaaImg6
set_option linter.unusedVariables false
set_option linter.unusedSimpArgs false
namespace Go.Proofs.Ythhpddiicnjmmaa
open Go.RowKit

theorem img_back {x : Img} (h : mayImg x = true) : fromV (imgV x) = x ∧ fromE (imgV x) = 0 ∧ (imgV x).length = 8 + (encB (fieldsG x)).length ∧ (∀ m, fromE (imgV x ++ [m]) = 3) ∧ (∀ k, k < (imgV x).length → fromE ((imgV x).take k) = 3) := by
  have hl := encG_len h
  have hv : imgV x = putB (encB (fieldsG x)) := if_pos h
  obtain ⟨p, hp⟩ : ∃ p, p = encB (fieldsG x) := ⟨_, rfl⟩
  have hd := (img_enc h).2.2
  rw [← hp] at hl hv hd ⊢
  rw [hv]
  obtain ⟨b1, b2, b3⟩ := put_back p [] (by omega)
  rw [List.append_nil] at b1 b2 b3
  have hlen := putB_len p
  have hrec : isRec (putB p) := ⟨b1, by rw [b2, hlen]⟩
  refine ⟨?_, ?_, hlen, fun m => ?_, fun k hk => ?_⟩
  · unfold fromV; rw [if_pos hrec, b3]; exact hd.2
  · unfold fromE; rw [if_pos ⟨hrec, by rw [b3]; exact hd.1⟩]
  · obtain ⟨c1, c2, c3⟩ := put_back p [m] (by omega)
    exact (from_bad (fun h => by have := h.2; rw [c2, List.length_append, hlen] at this; simp at this)).2
  · have := put_cut p k (by omega) hk
    exact (from_bad (fun h => by have := h.1; omega)).2
/-- What is taken is what was put. -/
theorem take_put {b : List UInt8} (h : takeE b = 0) : b.take (takeK b) = putB (takeV b) := by
  obtain ⟨hk, hv⟩ := take_good h
  rw [hk, hv]
  unfold takeE at h
  split at h
  · exact absurd h (by decide)
  rename_i h8
  split at h
  · exact absurd h (by decide)
  rename_i hN
  split at h
  · exact absurd h (by decide)
  rename_i hl
  split at h
  · rename_i hs
    have hrs := recSum_take h8 hl
    have hpl : ((b.drop 8).take (takeN b)).length = takeN b := by rw [List.length_take, List.length_drop]; omega
    unfold putB
    rw [hpl, hrs, hs]
    have e1 : bigB (takeN b) 4 = b.take 4 := by
      have := bigB_numB (b.take 4)
      rw [List.length_take, Nat.min_eq_left (by omega)] at this
      exact this
    have e2 : bigB (numB ((b.drop 4).take 4)) 4 = (b.drop 4).take 4 := by
      have := bigB_numB ((b.drop 4).take 4)
      rw [List.length_take, List.length_drop, Nat.min_eq_left (by omega)] at this
      exact this
    rw [e1, e2, show 8 + takeN b = 4 + (4 + takeN b) by omega, List.take_add, List.take_add, List.drop_drop]
  · exact absurd h (by decide)
/-- What is read is encoded as the same bytes. -/
theorem img_again {b : List UInt8} (h : fromE b = 0) : mayImg (fromV b) = true ∧ imgV (fromV b) = b ∧ imgE (fromV b) = 0 := by
  obtain ⟨hr, hd⟩ := from_ok h
  rcases decG_cases rdImg_inv rrImg_inv rdImg_fwd rrImg_fwd (takeV b) (z := img0) with ⟨he, t, hf, hm, h1, _⟩ | ⟨_, _, hn, _⟩
  · have hv : fromV b = t := (if_pos hr).trans h1
    rw [hv]
    have hp : putB (takeV b) = b := by rw [← take_put hr.1, hr.2, List.take_length]
    have hb : encB (fieldsG t) = takeV b := by
      obtain ⟨h2, h3, h4⟩ := encO_dec (dec_okT he)
      obtain ⟨k1, k2, k3⟩ := fieldsG_ok hm
      rw [hf, encO_eq (by omega) k1] at h2
      exact Option.some.inj h2
    refine ⟨hm, ?_, if_pos hm⟩
    unfold imgV
    rw [if_pos hm, hb, hp]
  · exact absurd hd hn
end Go.Proofs.Ythhpddiicnjmmaa
