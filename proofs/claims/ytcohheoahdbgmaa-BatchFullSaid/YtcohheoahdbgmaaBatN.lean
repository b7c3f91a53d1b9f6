/- Words for lists of items that a law of layer 16 makes. Written by gen_batn.py. -/
import Derived.Test.YtcohheoahdbgmaaBatM
import Derived.Test.YtcohheoahdbgmaaBatK
import Derived.Test.YtcohheoahdbgmaaBatJ
set_option linter.unusedVariables false
set_option linter.unusedSimpArgs false
namespace Go.Proofs.Ytcohheoahdbgmaa
open Go.RowKit

/-- What an owned slice's elements lead to may be said to be more. -/
theorem Own.weakS {α : Type} {R : Rep α} {w : World} {base : Nat} {S S' : Nat → Prop} {e : TypeId} {v : Value} {l : List α} (h : Own R w base S e v l) (hS : ∀ b, S b → S' b) (hlt : ∀ b, S' b → b < w.heap.size) (hrow : ∀ g, rowOf v = some g → ¬ S' g) : Own R w base S' e v l := by
  refine ⟨hlt, ?_⟩
  rcases h.2 with hn | ⟨g, cap, cur, xss, rfl, hbg, hSg, hh, hle, hm, hsz, hr, htake⟩
  · exact .inl hn
  · cases cap with
    | zero =>
      obtain rfl : l = [] := List.eq_nil_of_length_eq_zero (by omega)
      exact .inl ⟨_, rfl, rfl⟩
    | succ c => exact .inr ⟨g, c + 1, cur, xss, rfl, hbg, hrow g rfl, hh, hle, hm, hsz, hr.weak hS, htake⟩

theorem Own.row_not {α : Type} {R : Rep α} {w : World} {base : Nat} {S : Nat → Prop} {e : TypeId} {v : Value} {l : List α} (h : Own R w base S e v l) {g : Nat} (hg : rowOf v = some g) : ¬ S g := by
  rcases h.2 with ⟨A, rfl, rfl⟩ | ⟨g', cap, cur, xss, rfl, hbg, hS, _⟩
  · cases A <;> simp [rowOf] at hg
  · cases cap with
    | zero => simp [rowOf] at hg
    | succ c =>
      simp [rowOf] at hg
      subst hg
      exact hS

theorem Src.newAt {α : Type} {R : Rep α} {w : World} {S : Nat → Prop} {e : TypeId} {a : α} {cs : List Value} {n : Nat} (hn : n = w.heap.size) (h : R.rel (w.alloc (.cells cs.toArray e)) S a cs) : Src R (w.alloc (.cells cs.toArray e)) S (some ⟨n, 0, none⟩) 1 [a] := by
  subst hn; exact Src.new h

theorem info_item : (Try.prog.info? 25).map (fun i => (i.zero, i.size, i.bytes)) = some (some (.agg #[.int .i64 0, .slice none 0 0, .slice none 0 0]), 3, 56) := by kernel_rfl

/-- A list of items made by a call: it owns the row, and what the elements lead to is new too. -/
def OwnI (w : World) (base : Nat) (v : Value) (l : List Item) : Prop := ∃ S : Nat → Prop, (∀ b, S b → base ≤ b) ∧ Own itemRep w base S 25 v l

/-- Such items as 'some' makes, one behind the other. -/
structure GoodL (l : List Item) (k : Nat) : Prop where
  len : l.length = k
  may : l.all mayItem = true
  rise : riseL l = true
  top : lsnL l ≤ 3 * (k : Int)
  low : 0 ≤ lsnL l
  ops : (opsOf l).length ≤ 5 * k
  notes : (notesOf l).length ≤ 4 * k

theorem someI_len (lsn : Int) (x : Item) : (someI lsn x).ops.length ≤ 5 ∧ (someI lsn x).notes.length ≤ 4 := by
  unfold someI playOps
  dsimp only
  rw [List.length_map, List.length_map, List.length_take, List.length_take]
  omega

theorem GoodL.snoc {l : List Item} {k : Nat} (h : GoodL l k) (hk : k < 12) (x : Item) : GoodL (l ++ [someI (lsnL l) x]) (k + 1) := by
  have h1 := someI_may (lsnL l) x h.low (by have := h.top; omega)
  have h2 := someI_len (lsnL l) x
  have h3 := playLsn_range (lsnL l) x
  have h4 : (someI (lsnL l) x).lsn = playLsn (lsnL l) x := rfl
  have h5 := h.top
  have h6 := h.low
  refine ⟨by rw [List.length_append, h.len]; rfl, by rw [List.all_append, h.may, List.all_cons, h1]; rfl, ?_, ?_, ?_, ?_, ?_⟩
  · rw [riseL_snoc, h.rise, decide_eq_true (by omega)]; rfl
  · rw [lsnL_snoc]; omega
  · rw [lsnL_snoc]; omega
  · rw [opsOf_snoc, List.length_append]; have := h.ops; omega
  · rw [notesOf_snoc, List.length_append]; have := h.notes; omega

/-- Two items in a block of their own. -/
theorem two_lies {w : World} {x y : Item} {A : Option Addr} {n c : Nat} {A2 : Option Addr} {n2 c2 : Nat} {Ay : Option Addr} {ny cy : Nat} {By : Option Addr} {my dy : Nat}
    (hx : Lies w x A n c A2 n2 c2) (hy : Lies w y Ay ny cy By my dy) (h1 : I64 x.lsn ∧ I64 y.lsn) (t : TypeId) {d : Nat} (hd : d = w.heap.size) {cs : Array Value} (hcs : cs.toList = [.int .i64 x.lsn, .slice A n c, .slice A2 n2 c2, .int .i64 y.lsn, .slice Ay ny cy, .slice By my dy]) :
    IsSl itemRep (w.alloc (.cells cs t)) (· < (w.alloc (.cells cs t)).heap.size) (some ⟨d, 0, none⟩) 2 [x, y] := by
  subst hd
  have hS : ∀ b, b < w.heap.size → b < (w.alloc (.cells cs t)).heap.size := fun b h => by simp; omega
  have rx := itemRep.keep (w' := w.alloc (.cells cs t)) (hx.rel h1.1 (S := (· < w.heap.size)) (fun _ h => h)) (fun p hp => ((Below.refl w.heap.size w).alloc (Nat.le_refl _) _).cell hp)
  have ry := itemRep.keep (w' := w.alloc (.cells cs t)) (hy.rel h1.2 (S := (· < w.heap.size)) (fun _ h => h)) (fun p hp => ((Below.refl w.heap.size w).alloc (Nat.le_refl _) _).cell hp)
  have e := (Rows.single (itemRep.weak rx hS)).append (Rows.single (itemRep.weak ry hS))
  exact ⟨rfl, _, e, fun _ => ⟨w.heap.size, 0, rfl, by simp, fun j u hu => by
    rw [World.cell?_alloc_at _ _ _ _ rfl]
    have : cs.toList[0 + j]? = some u := by rw [hcs, Nat.zero_add]; simpa using hu
    simpa using this⟩⟩

/-- A new item behind those that are there. -/
theorem OwnI.next {w W : World} {base B : Nat} {v : Value} {l : List Item} {S : Nat → Prop} (hS : ∀ b, S b → base ≤ b) (h : Own itemRep w base S 25 v l) (hw : w.heap.size ≤ B) (hb : Below w.heap.size w W) (hB : B ≤ W.heap.size) : Own itemRep W base (fun b => S b ∨ (w.heap.size ≤ b ∧ b < B)) 25 v l :=
  (h.below hb).weakS (fun _ h => .inl h) (fun b hb' => hb'.elim (fun h2 => by have := h.1 b h2; have := hb.size; omega) (fun h2 => by omega)) (fun g hg hb' => hb'.elim (fun h2 => h.row_not hg h2) (fun h2 => by have := h.row_lt hg; omega))

theorem items_from {w : World} {g k p : Nat} {l : List Item} (h : IsSl itemRep w (· < w.heap.size) (some ⟨g, 0, none⟩) k l) (hp : p ≤ k) : IsSl itemRep w (· < w.heap.size) (some ⟨g, p * 3, none⟩) (k - p) (l.drop p) := by
  refine h.from_ hp ?_
  rintro _ b off e
  injection e with e
  injection e with e1 e2 _
  subst e1 e2
  rw [show itemRep.size = 3 from rfl, Nat.zero_add]

theorem OwnI.sl {w : World} {base : Nat} {v : Value} {l : List Item} (h : OwnI w base v l) : ∃ A c, v = .slice A l.length c ∧ l.length ≤ c ∧ c ≤ maxLen ∧ IsSl itemRep w (· < w.heap.size) A l.length l ∧ (l ≠ [] → ∃ g, A = some ⟨g, 0, none⟩) := by
  obtain ⟨S, hS, ho⟩ := h
  obtain ⟨A, c, hv, h1, h2, h3⟩ := ho.isSl (S' := (· < w.heap.size)) (fun b hb => ho.1 b hb) (fun g _ h => h)
  refine ⟨A, c, hv, h1, h2, h3, fun hne => ?_⟩
  obtain ⟨g, cap, hv2, _⟩ := ho.form1 hne
  rw [hv] at hv2
  injection hv2 with e _ _
  exact ⟨g, e⟩
end Go.Proofs.Ytcohheoahdbgmaa
