/- Plain facts: a chunk that is done leaves requests that may be. -/
import Derived.Test.YtmnjjmgdeiejkaaReqD
namespace Go.Proofs.Ytmnjjmgdeiejkaa

theorem ref_iff : ∀ (n : Nat) (l : List Req), l.length = n → (refFrom [] l = true ↔ ∀ i x, l[i]? = some x → refStep (l.take i) x = true) := by
  intro n
  induction n with
  | zero => intro l h; obtain rfl := List.eq_nil_of_length_eq_zero h; simp [refFrom]
  | succ n ih =>
    intro l h
    have hne : l ≠ [] := by rintro rfl; simp at h
    obtain ⟨q, x, rfl⟩ : ∃ q x, l = q ++ [x] := ⟨l.dropLast, l.getLast hne, (List.dropLast_concat_getLast hne).symm⟩
    have hq : q.length = n := by simpa using h
    rw [refFrom_append, Bool.and_eq_true, ih q hq, List.nil_append]
    have hx : (q ++ [x])[q.length]? = some x := by simp
    constructor
    · rintro ⟨h1, h2⟩ i y hy
      by_cases hi : i < q.length
      · rw [List.getElem?_append_left hi] at hy
        rw [List.take_append_of_le_length (by omega)]
        exact h1 i y hy
      · have : i = q.length := by have := (List.getElem?_eq_some_iff.1 hy).1; simp at this; omega
        subst this
        rw [hx] at hy
        obtain rfl := Option.some.inj hy
        rw [List.take_left]
        simpa [refFrom] using h2
    · intro h3
      refine ⟨fun i y hy => ?_, ?_⟩
      · have hi : i < q.length := (List.getElem?_eq_some_iff.1 hy).1
        have := h3 i y (by rw [List.getElem?_append_left hi]; exact hy)
        rwa [List.take_append_of_le_length (by omega)] at this
      · have := h3 q.length x hx
        rw [List.take_left] at this
        simpa [refFrom] using this

theorem map_set_same {β : Type} {l : List Req} {k : Nat} {r r' : Req} {f : Req → β} (hr : l[k]? = some r) (hf : f r' = f r) : (l.set k r').map f = l.map f := by
  rw [List.map_set, hf]
  exact set_same (by rw [List.getElem?_map, hr]; rfl)

theorem map_take_same {β : Type} {l : List Req} {k i : Nat} {r r' : Req} {f : Req → β} (hr : l[k]? = some r) (hf : f r' = f r) : ((l.set k r').take i).map f = (l.take i).map f := by
  rw [List.map_take, List.map_take, map_set_same hr hf]

theorem aheadOf_map {l l' : List Req} (h : l.map (·.at_) = l'.map (·.at_)) : aheadOf l = aheadOf l' := by
  have e : ∀ l : List Req, aheadOf l = match (l.map (·.at_)).getLast? with | some a => a | none => 0 := by
    intro l
    unfold aheadOf
    rw [List.getLast?_map]
    cases l.getLast? <;> rfl
  rw [e, e, h]

theorem clash_map {l l' : List Req} {t : Int} (h : l.map (fun r => decide (r.table = t) && !r.done) = l'.map (fun r => decide (r.table = t) && !r.done)) : clash l t = clash l' t := by
  have e : ∀ l : List Req, clash l t = (l.map (fun r => decide (r.table = t) && !r.done)).any id := by
    intro l
    unfold clash
    rw [List.any_map]
    rfl
  rw [e, e, h]

theorem chunk_may {l : List Req} {id cursor : Int} {done : Bool} {M : List Req} (h : chunkO l id cursor done = some M) : mayB M = true := by
  unfold chunkO at h
  cases hp : placed l id with
  | none => rw [hp] at h; cases h
  | some r =>
    rw [hp] at h
    dsimp only at h
    split at h
    · rename_i hc
      obtain ⟨hm, h1, h2, h3⟩ := hc
      obtain ⟨q1, q2, hr, hd⟩ := placed_some hp
      obtain rfl := Option.some.inj h
      obtain ⟨k, hk⟩ : ∃ k, k = (id - 1).toNat := ⟨_, rfl⟩
      rw [← hk] at hr ⊢
      unfold mayB at hm ⊢
      rw [Bool.and_eq_true] at hm ⊢
      refine ⟨?_, by rw [List.length_set]; exact hm.2⟩
      have hall := (ref_iff _ l rfl).1 (by rw [ref_all]; exact hm.1)
      rw [← ref_all]
      refine (ref_iff _ _ rfl).2 fun i x hx => ?_
      have hkl : k < l.length := (List.getElem?_eq_some_iff.1 hr).1
      have hah : ∀ i, aheadOf ((l.set k { r with cursor := cursor, done := done, chunks := r.chunks + 1 }).take i) = aheadOf (l.take i) := fun i => aheadOf_map (map_take_same hr rfl)
      have hlen : ((l.set k { r with cursor := cursor, done := done, chunks := r.chunks + 1 }).take i).length = (l.take i).length := by simp
      have hcl : ∀ t, t ≠ r.table → clash ((l.set k { r with cursor := cursor, done := done, chunks := r.chunks + 1 }).take i) t = clash (l.take i) t := by
        intro t ht
        refine clash_map (map_take_same hr ?_)
        have e : decide (r.table = t) = false := by simp; exact fun h => ht h.symm
        dsimp only
        rw [e]
        rfl
      by_cases hik : i = k
      · subst hik
        rw [List.getElem?_set_self hkl] at hx
        obtain rfl := Option.some.inj hx
        have h0 := hall i r hr
        have hsame : (l.set i { r with cursor := cursor, done := done, chunks := r.chunks + 1 }).take i = l.take i := by
          rw [List.take_set, List.set_eq_of_length_le (by rw [List.length_take]; omega)]
        rw [hsame]
        unfold refStep oneB at h0 ⊢
        simp only [Bool.and_eq_true, decide_eq_true_eq] at h0 ⊢
        refine ⟨h0.1, ?_, h0.2.2⟩
        have := h0.2.1
        omega
      · rw [List.getElem?_set_ne (Ne.symm hik)] at hx
        have h0 := hall i x hx
        unfold refStep at h0 ⊢
        rw [hah, hlen]
        by_cases hit : i < k
        · have hsame : (l.set k { r with cursor := cursor, done := done, chunks := r.chunks + 1 }).take i = l.take i := by
            rw [List.take_set, List.set_eq_of_length_le (by simp; omega)]
          rw [hsame]
          exact h0
        · have hxt : x.table ≠ r.table := by
            intro e
            have hcl2 : clash (l.take i) r.table = true := clash_hit (q := k) (y := r) (by rw [List.getElem?_take, if_pos (by omega)]; exact hr) rfl hd
            rw [e, hcl2] at h0
            simp at h0
          rw [hcl _ hxt]
          exact h0
    · cases h

theorem accept_may {l : List Req} {t wt a : Int} {M : List Req} (h : acceptO l t wt a = some M) : mayB M = true := by
  unfold acceptO at h
  split at h
  · rename_i hc
    rw [Bool.and_eq_true] at hc
    obtain rfl := Option.some.inj h
    exact hc.2
  · cases h

theorem do_may {l : List Req} {o : Op14} {M : List Req} (h : doO l o = some M) : mayB M = true := by
  unfold doO at h
  split at h
  · exact accept_may h
  · exact chunk_may h

theorem may_len {l : List Req} (h : mayB l = true) : l.length ≤ 64 := by
  unfold mayB at h
  rw [Bool.and_eq_true] at h
  exact of_decide_eq_true h.2
end Go.Proofs.Ytmnjjmgdeiejkaa
