/- Contracts of the reference's Accept, Open. -/
import Derived.Test.YtmnjjmgdeiejkaaReqR
namespace Go.Proofs.Ytmnjjmgdeiejkaa
open Go.RowKit

set_option maxHeartbeats 1000000 in
theorem refaccept_any (A : Option Addr) (n c : Nat) (l : List Req) (table weight at_ : Int) (w : World) (h : IsSl reqRep w (· < w.heap.size) A n l) (hn : n ≤ 900000) (ht : I64 table) (hw : I64 weight) (ha : I64 at_) :
    Calls Try.prog 40 #[.slice A n c, .int .i64 table, .int .i64 weight, .int .i64 at_] w (Answers w (acceptO l table weight at_)) := by
  obtain ⟨i0, hi, hz0, hz1, hz2⟩ := info_parts info_req
  have hlen := h.len
  have hwf : (⟨(l.length : Int) + 1, table, weight, at_, 0, 0, false⟩ : Req).wf := by
    refine ⟨?_, ht, hw, ha, ?_, ?_⟩ <;> (unfold I64; dsimp only; omega)
  obtain ⟨l2, hl2⟩ : ∃ l2, l2 = l ++ [(⟨(l.length : Int) + 1, table, weight, at_, 0, 0, false⟩ : Req)] := ⟨_, rfl⟩
  have HO := Lib.hid (show acceptO l table weight at_ = if mayB l && mayB l2 then some l2 else none by rw [hl2]; rfl)
  rw [← hlen] at hl2 hwf
  have HL2 := Lib.hid hl2
  have h2len : l2.length = n + 1 := by rw [hl2]; simp; omega
  have H2 := Lib.hid h2len
  have HL := Lib.hid hlen
  have H := Lib.hid h
  obtain ⟨m1, hm1⟩ : ∃ m1, m1 = mayB l := ⟨_, rfl⟩
  obtain ⟨m2, hm2⟩ : ∃ m2, m2 = mayB l2 := ⟨_, rfl⟩
  rw [← hm1, ← hm2] at HO
  have HM1 := Lib.hid hm1
  have HM2 := Lib.hid hm2
  have hn1 : n ≤ 1000000 := by omega
  have hn2 : n + 1 ≤ 1000000 := by omega
  have hb0 : Below w.heap.size w (w.alloc (.cells #[] 54)) := (Below.refl _ _).alloc (Nat.le_refl _) _
  clear h hlen hl2 h2len hm1 hm2
  cases m1 <;> cases m2
  all_goals
    go_enter Try.func40, Try.ntmps40
    go_wp2_with (first
      | (at_builtin; refine wpList_append_Own _ rfl (.tmp 11) (.tmp 12) 48 rfl w.heap.size 54 i0 _ 56 Try.underlying48 hi hz0 hz1 hz2 rfl (R := reqRep) (S := fun _ => False) (l := []) (l' := l) (.slice (some ⟨w.heap.size, 0, none⟩) 0 0) rfl (Own.nil _ _ _ (fun _ h => h.elim) _ _) _ n c rfl ((H.out).srcF flat_req hb0) (by simp only [maxLen, List.length_nil]; omega) (by simp only [List.length_nil]; omega) (by omega) (by simp) ?_; intro v1 w1 own1 gr1 at1; have bel1 := hb0.grown gr1 (by simp) (by intro k hk; simp [rowOf] at hk); simp only [List.nil_append] at own1; clear gr1 at1; have hs1 := bel1.size; have hf1 := own1.form; rw [← HL.out] at hf1; obtain ⟨A1, c1, rfl⟩ := hf1)
      | (at_builtin; refine wpList_append_Own _ rfl (.tmp 14) (.tmp 22) 48 rfl w.heap.size 54 i0 _ 56 Try.underlying48 hi hz0 hz1 hz2 rfl (R := reqRep) (S := fun _ => False) (l := l) (l' := [⟨(n : Int) + 1, table, weight, at_, 0, 0, false⟩]) (.slice A1 n c1) rfl (own1.alloc _) _ 1 _ rfl (Src.new ⟨rfl, hwf⟩) (by simp only [maxLen]; rw [← HL.out]; omega) (by rw [← HL.out]; omega) (by omega) (by simp; omega) ?_; intro v2 w2 own2 gr2 at2; have bel2 : Below w.heap.size w w2 := (bel1.alloc hs1 _).grown gr2 (by simp; omega) (fun k hk => own1.row_ge hk); rw [← HL2.out] at own2; obtain ⟨A2, c2, rfl, h21, h22, sl2⟩ := own2.isSl (S' := (· < w2.heap.size)) (fun _ h => h.elim) (fun _ _ h => h); rw [H2.out] at sl2 own2 ⊢; have SL2 := Lib.hid sl2; have OWN2 := Lib.hid own2; have SL1 := Lib.hid (((H.out).below bel2).more bel2.size); have hs2 := bel2.size; clear gr2 at2 own2 sl2)
      | (go_at_call 42; (with_reducible refine (refmay_any A n c l _ SL1.out hn1).mono ?_); rintro e w3 ⟨rfl, bel3⟩; rw [← HM1.out]; have hs3 := bel3.size; have SL3 := Lib.hid (((SL2.out).below bel3).more hs3); have OWN3 := Lib.hid ((OWN2.out).below bel3); have bw3 : Below w.heap.size w w3 := bel2.trans (bel3.mono hs2))
      | (go_at_call 42; (with_reducible refine (refmay_any A2 (n + 1) c2 l2 _ SL3.out hn2).mono ?_); rintro e w4 ⟨rfl, bel4⟩; rw [← HM2.out]; have hs4 := bel4.size; have OWN4 := Lib.hid ((OWN3.out).below bel4); have bw4 : Below w.heap.size w w4 := bw3.trans (bel4.mono (by omega))))
    go_ret2
    unfold Answers
    rw [HO.out]
  · exact ⟨_, rfl, Own.nil _ _ _ (fun _ h => h.elim) _ _, bw3⟩
  · exact ⟨_, rfl, Own.nil _ _ _ (fun _ h => h.elim) _ _, bw3⟩
  · exact ⟨_, rfl, Own.nil _ _ _ (fun _ h => h.elim) _ _, bw4⟩
  · exact ⟨_, rfl, OWN4.out, bw4⟩

set_option maxHeartbeats 1000000 in
theorem refopen_any (A : Option Addr) (n c : Nat) (l : List Req) (w : World) (h : IsSl reqRep w (· < w.heap.size) A n l) (hn : n ≤ 1000000) :
    Calls Try.prog 36 #[.slice A n c] w fun e w' => ∃ v, e = .returned v ∧ Own reqRep w' w.heap.size (fun _ => False) 54 v (openL l) ∧ Below w.heap.size w w' := by
  obtain ⟨i0, hi, hz0, hz1, hz2⟩ := info_parts info_req
  have HL := Lib.hid h.len
  go_enter Try.func36, Try.ntmps36
  go_wp2
  go_loopw [3, 4] (fun v i wr => ∃ p : Nat, i = .int .i64 p ∧ p ≤ n ∧ Own reqRep wr w.heap.size (fun _ => False) 54 v (openL (l.take p)) ∧ Below w.heap.size w wr) (fun _ i _ => n - (intOf i).toNat)
  case atStart => exact ⟨0, rfl, Nat.zero_le _, by simpa [openL] using Own.nil (R := reqRep) w w.heap.size (fun _ => False) (fun _ h => h.elim) _ none, Below.refl _ _⟩
  case round =>
    obtain ⟨p, rfl, hpn, hown, hbel⟩ := hrel
    have hpl := openL_len l p
    obtain ⟨A', cap, rfl⟩ := hown.form
    obtain ⟨F, hF⟩ : ∃ F, F = openL (l.take p) := ⟨_, rfl⟩
    rw [← hF] at hown hpl ⊢
    have HF := Lib.hid hF
    have HO := Lib.hid hown
    have hs0 := hbel.size
    clear hown hF
    by_cases hlt : p < n
    · obtain ⟨b, off, x, cs, rfl, hbS, hx, ⟨rfl, hwf⟩, hc⟩ := h.at_ hlt
      have hcc : ∀ (j : Nat) (u : Value), x.cells[j]? = some u → wr.cell? ⟨b, off + p * 7 + j, none⟩ = some u := fun j u hu => (hbel.cell (p := ⟨b, off + p * 7 + j, none⟩) hbS).trans (hc j u hu)
      have c0 : wr.cell? ⟨b, off + p * 7, none⟩ = some (.int .i64 x.id) := hcc 0 _ rfl
      have c1 : wr.cell? ⟨b, off + p * 7 + 1, none⟩ = some (.int .i64 x.table) := hcc 1 _ rfl
      have c2 : wr.cell? ⟨b, off + p * 7 + 2, none⟩ = some (.int .i64 x.weight) := hcc 2 _ rfl
      have c3 : wr.cell? ⟨b, off + p * 7 + 3, none⟩ = some (.int .i64 x.at_) := hcc 3 _ rfl
      have c4 : wr.cell? ⟨b, off + p * 7 + 4, none⟩ = some (.int .i64 x.cursor) := hcc 4 _ rfl
      have c5 : wr.cell? ⟨b, off + p * 7 + 5, none⟩ = some (.int .i64 x.chunks) := hcc 5 _ rfl
      have c6 : wr.cell? ⟨b, off + p * 7 + 6, none⟩ = some (.bool x.done) := hcc 6 _ rfl
      have HSN := Lib.hid (openL_snoc hx)
      clear hc hcc h hx
      cases hd : x.done with
      | true =>
        rw [hd] at c6
        go_wp2
        go_roundw
        case rel =>
          have e := HSN.out
          rw [hd, if_pos rfl, List.append_nil, ← HF.out] at e
          exact ⟨p + 1, by go_num, by omega, by rw [e]; exact HO.out, hbel⟩
        case measure => simp [intOf]; omega
      | false =>
        rw [hd] at c6
        go_wp2_with (at_builtin; refine wpList_append_Own _ rfl (.tmp 17) (.tmp 22) 48 rfl w.heap.size 54 i0 _ 56 Try.underlying48 hi hz0 hz1 hz2 rfl (R := reqRep) (S := fun _ => False) (l := F) (l' := [x]) (.slice A' F.length cap) rfl (HO.out.alloc _) _ 1 _ rfl ?_ (by simp only [maxLen]; omega) (by omega) (by omega) (by simp; omega) ?_; exact Src.one (cs := x.cells) ⟨rfl, hwf⟩ (by intro j u hu; rw [← hu]; simp [Req.cells, hd]); intro v2 w2 own2 gr2 at2; have hb2 := (hbel.alloc hs0 _).grown gr2 (by simp; omega) (fun k hk => HO.out.row_ge hk); clear gr2 at2)
        go_roundw
        case rel =>
          have e := HSN.out
          rw [hd, if_neg (by simp), ← HF.out] at e
          exact ⟨p + 1, by go_num, by omega, by rw [e]; exact own2, hb2⟩
        case measure => simp [intOf]; omega
    · have hge : n ≤ p := by omega
      go_wp2
      go_ret
      exact ⟨_, rfl, by have := HO.out; rw [HF.out, List.take_of_length_le (by rw [← HL.out]; exact hge)] at this; rw [HF.out, List.take_of_length_le (by rw [← HL.out]; exact hge)]; exact this, hbel⟩
end Go.Proofs.Ytmnjjmgdeiejkaa
