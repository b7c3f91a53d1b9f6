/- Plain laws for the law MuxSignals, and the lists of lists of texts. -/
import Derived.Test.YthhpddiicnjmmaaMuxD
import Derived.Test.YthhpddiicnjmmaaPlT
import Derived.Test.YthhpddiicnjmmaaCfg
import Derived.Test.YthhpddiicnjmmaaSigA
import Derived.Test.YthhpddiicnjmmaaHelpReq
set_option linter.unusedVariables false
set_option linter.unusedSimpArgs false
set_option maxRecDepth 100000
namespace Go.Proofs.Ythhpddiicnjmmaa
open Go.RowKit

theorem Mx.accs_app (x : Mx) (lsn : Int) (a b : List ByteArray) : x.accs lsn (a ++ b) = (((x.accs lsn a).1.accs lsn b).1, (x.accs lsn a).2 ++ ((x.accs lsn a).1.accs lsn b).2) := by
  have : ∀ (b : List ByteArray) (p : Mx × List Note), b.foldl (fun p s => (p.1.acc s lsn, p.2 ++ p.1.accN s lsn)) p = ((p.1.accs lsn b).1, p.2 ++ (p.1.accs lsn b).2) := by
    intro b
    induction b with
    | nil => intro p; simp [Mx.accs]
    | cons s t ih =>
      intro p
      have e : p.1.accs lsn (s :: t) = t.foldl (fun p s => (p.1.acc s lsn, p.2 ++ p.1.accN s lsn)) (p.1.acc s lsn, [] ++ p.1.accN s lsn) := rfl
      rw [List.foldl_cons, ih, e, ih]
      simp [List.append_assoc]
  have e : x.accs lsn (a ++ b) = b.foldl (fun p s => (p.1.acc s lsn, p.2 ++ p.1.accN s lsn)) (x.accs lsn a) := by unfold Mx.accs; rw [List.foldl_append]
  rw [e, this]
theorem acc_keep (x : Mx) (s : ByteArray) (lsn : Int) : (x.acc s lsn).tables = x.tables ∧ (x.acc s lsn).at_ = x.at_ ∧ (x.acc s lsn).win = x.win ∧ (x.acc s lsn).late = x.late := by
  unfold Mx.acc
  split <;> exact ⟨rfl, rfl, rfl, rfl⟩
theorem accs_keep (x : Mx) (lsn : Int) (l : List ByteArray) : (x.accs lsn l).1.tables = x.tables ∧ (x.accs lsn l).1.at_ = x.at_ ∧ (x.accs lsn l).1.win = x.win ∧ (x.accs lsn l).1.late = x.late := by
  have : ∀ (l : List ByteArray) (p : Mx × List Note), (l.foldl (fun p s => (p.1.acc s lsn, p.2 ++ p.1.accN s lsn)) p).1.tables = p.1.tables ∧ (l.foldl (fun p s => (p.1.acc s lsn, p.2 ++ p.1.accN s lsn)) p).1.at_ = p.1.at_ ∧ (l.foldl (fun p s => (p.1.acc s lsn, p.2 ++ p.1.accN s lsn)) p).1.win = p.1.win ∧ (l.foldl (fun p s => (p.1.acc s lsn, p.2 ++ p.1.accN s lsn)) p).1.late = p.1.late := by
    intro l
    induction l with
    | nil => intro p; exact ⟨rfl, rfl, rfl, rfl⟩
    | cons s t ih =>
      intro p
      rw [List.foldl_cons]
      obtain ⟨h1, h2, h3, h4⟩ := ih (p.1.acc s lsn, p.2 ++ p.1.accN s lsn)
      obtain ⟨k1, k2, k3, k4⟩ := acc_keep p.1 s lsn
      exact ⟨h1.trans k1, h2.trans k2, h3.trans k3, h4.trans k4⟩
  exact this l (x, [])
/-- The note of a signal that is accepted stands at its place among all notes. -/
theorem accs_at {x : Mx} {lsn : Int} {g : List ByteArray} {j : Nat} {s : ByteArray} {n : Note} (hs : g[j]? = some s) (hn : (x.accs lsn (g.take j)).1.accN s lsn = [n]) : (x.accs lsn g).2[(x.accs lsn (g.take j)).2.length]? = some n := by
  have e : g = g.take (j + 1) ++ g.drop (j + 1) := (List.take_append_drop _ _).symm
  have h : (x.accs lsn g).2 = ((x.accs lsn (g.take j)).2 ++ [n]) ++ ((x.accs lsn (g.take (j + 1))).1.accs lsn (g.drop (j + 1))).2 := by
    conv => lhs; rw [e, Mx.accs_app]
    dsimp only
    rw [take_snoc hs, Mx.accs_snoc]
    dsimp only
    rw [hn]
  rw [h, List.append_assoc, List.getElem?_append_right (Nat.le_refl _), Nat.sub_self]
  rfl
theorem sig_may {lsn : Int} {g : List ByteArray} (h1 : 1 ≤ lsn) (h2 : lsn ≤ 1099511627776) (hg : ∀ s ∈ g, s.size ≤ 40) (hl : g.length ≤ 2) : mayTxn ⟨lsn, 1, [], g, 0⟩ = true := by
  unfold mayTxn mayCli
  dsimp only
  rw [if_pos rfl, decide_eq_true ⟨h1, h2⟩, decide_eq_true ⟨rfl, by simp, hl⟩]
  simp only [List.all_nil, Bool.true_and, List.all_eq_true, decide_eq_true_eq]
  exact hg
theorem sig_take {x : Mx} {g : List ByteArray} (h0 : 0 ≤ x.at_) (h1 : x.at_ + 1 ≤ 1099511627776) (hg : ∀ s ∈ g, s.size ≤ 40) (hl : g.length ≤ 2) :
    x.takeE ⟨x.at_ + 1, 1, [], g, 0⟩ = 0 ∧ x.takeI ⟨x.at_ + 1, 1, [], g, 0⟩ = ⟨x.at_ + 1, [], ((x.setAt (x.at_ + 1)).accs (x.at_ + 1) g).2⟩ ∧ (x.takeM ⟨x.at_ + 1, 1, [], g, 0⟩).reqs = ((x.setAt (x.at_ + 1)).accs (x.at_ + 1) g).1.reqs ∧ (x.takeM ⟨x.at_ + 1, 1, [], g, 0⟩).at_ = x.at_ + 1 ∧ (x.takeM ⟨x.at_ + 1, 1, [], g, 0⟩).tables = x.tables := by
  have hm := sig_may (lsn := x.at_ + 1) (by omega) h1 hg hl
  have hb : x.bad ⟨x.at_ + 1, 1, [], g, 0⟩ = false := by
    unfold Mx.bad Win.waits
    dsimp only
    rw [decide_eq_true rfl, decide_eq_false (by rintro ⟨h, _⟩; exact absurd h (by decide))]
    rfl
  obtain ⟨e1, e2, e3⟩ := take_ok hm hb
  rw [if_pos rfl] at e2 e3
  obtain ⟨k1, k2, k3, k4⟩ := accs_keep (x.setAt (x.at_ + 1)) (x.at_ + 1) g
  exact ⟨e1, e2, by rw [e3]; rfl, by rw [e3]; exact k2, by rw [e3]; exact k1⟩
theorem playSigs_all (l : List ByteArray) : (∀ s ∈ playSigs 8 2 l, s.size ≤ 40) ∧ (playSigs 8 2 l).length ≤ 2 := by
  refine ⟨fun s hs => ?_, playSigs_len 8 2 l⟩
  unfold playSigs at hs
  obtain ⟨q, _, rfl⟩ := List.mem_map.1 hs
  exact playSig_size 8 q
/-- A list among lists. -/
theorem IsSl.inner {α : Type} {R : Rep α} {w w' : World} {S : Nat → Prop} {n k : Nat} {A : Option Addr} {T : List (List α)} (h : IsSl (sliceRep R) w S A n T) (hk : k < n) (hw : ∀ p : Addr, S p.block → w'.cell? p = w.cell? p) :
    ∃ b off l A1 n1 c1, A = some ⟨b, off, none⟩ ∧ S b ∧ T[k]? = some l ∧ IsSl R w' S A1 n1 l ∧ n1 ≤ c1 ∧ c1 ≤ maxLen ∧ w'.cell? ⟨b, off + k, none⟩ = some (.slice A1 n1 c1) := by
  obtain ⟨b, off, l, cs, rfl, hb, hx, ⟨A1, n1, c1, rfl, s1, l1, m1⟩, hc⟩ := h.at_ hk
  have e := hc 0 _ rfl
  rw [show off + k * (sliceRep R).size + 0 = off + k by show off + k * 1 + 0 = _; omega] at e
  exact ⟨b, off, l, A1, n1, c1, rfl, hb, hx, s1.keep hw, l1, m1, (hw _ hb).trans e⟩
theorem cfg_new (c : Cfg) : newOk (playCfg c).tables (playCfg c).late (playCfg c).chunk 0 [] = true ∧ 1 ≤ (playCfg c).tables ∧ (playCfg c).tables ≤ 4 := by
  have h1 := modOf_range c.tables 4 (by omega)
  have h2 := modOf_range c.chunk 4 (by omega)
  obtain ⟨k, hk⟩ := Int.eq_ofNat_of_zero_le (show 0 ≤ 1 + modOf c.tables 4 by omega)
  have hp := (pow_small4 (k := k) (by omega)).1
  have h3 := modOf_range c.late (2 ^ k) hp
  unfold newOk playCfg
  dsimp only
  rw [hk, Int.toNat_natCast]
  refine ⟨?_, by omega, by omega⟩
  rw [Bool.and_eq_true]
  refine ⟨decide_eq_true ⟨by omega, by omega, h3.1, h3.2, by omega, by omega, by omega, by omega⟩, ?_⟩
  rfl
end Go.Proofs.Ythhpddiicnjmmaa
