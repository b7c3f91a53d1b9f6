/- The walk of the law ReqOnce. -/
import Derived.Test.YtmnjjmgdeiejkaaReqP
import Derived.Test.YtmnjjmgdeiejkaaMake
import Derived.Deep.QuietTactic
import Derived.BigQuiet
namespace Go.Proofs.Ytmnjjmgdeiejkaa
open Go.RowKit

/-- Of so many tables, which has a request that is not done. -/
def opensL (P : List Req) : List Bool := (List.range 8).map fun t : Nat => clash P (t : Int)

theorem opensL_step (P : List Req) (y : Req) {t : Nat} (ht : y.table = (t : Int)) (_h8 : t < 8) : opensL (P ++ [y]) = if y.done then opensL P else (opensL P).set t true := by
  unfold opensL
  refine List.ext_getElem? fun k => ?_
  by_cases hd : y.done
  · rw [if_pos hd]
    simp [clash_snoc, hd]
  · rw [if_neg hd, List.getElem?_set]
    have hd2 : y.done = false := by simpa using hd
    by_cases hk : t = k
    · subst hk
      simp [clash_snoc, hd2, ht, _h8]
    · rw [if_neg hk]
      have hne : ¬ y.table = (k : Int) := by omega
      by_cases hk8 : k < 8
      · simp [hk8, clash_snoc, hne]
      · rw [List.getElem?_eq_none (by simp; omega), List.getElem?_eq_none (by simp; omega)]

theorem opensL_at (P : List Req) {t : Nat} (h : t < 8) : (opensL P)[t]? = some (clash P (t : Int)) := by
  unfold opensL; simp [h]

theorem may_at {M : List Req} (h : mayB M = true) {k : Nat} {y : Req} (hy : M[k]? = some y) : ∃ t : Nat, y.table = (t : Int) ∧ t < 8 ∧ clash (M.take k) y.table = false := by
  unfold mayB at h
  rw [Bool.and_eq_true] at h
  have := (ref_iff _ M rfl).1 (by rw [ref_all]; exact h.1) k y hy
  unfold refStep oneB at this
  simp only [Bool.and_eq_true, decide_eq_true_eq] at this
  obtain ⟨t, ht⟩ := Int.eq_ofNat_of_zero_le this.2.1.1
  exact ⟨t, ht, by have := this.2.1.2.1; omega, by simpa using this.2.2⟩

theorem do_shape {l : List Req} {o : Op14} {M : List Req} (h : doO l o = some M) : (l.length ≤ M.length ∧ M.length ≤ l.length + 1) ∧ ∀ (k : Nat) (z : Req), l[k]? = some z → z.done = true → M[k]? = some z := by
  unfold doO at h
  split at h
  · unfold acceptO at h
    split at h
    · obtain rfl := Option.some.inj h
      refine ⟨by simp, fun k z hz _ => ?_⟩
      rw [List.getElem?_append_left (List.getElem?_eq_some_iff.1 hz).1]
      exact hz
    · cases h
  · unfold chunkO at h
    cases hp : placed l (smallF l o).id with
    | none => rw [hp] at h; cases h
    | some r =>
      rw [hp] at h
      dsimp only at h
      split at h
      · obtain rfl := Option.some.inj h
        obtain ⟨_, _, hr, hd⟩ := placed_some hp
        refine ⟨by simp, fun k z hz hzd => ?_⟩
        by_cases e : ((smallF l o).id - 1).toNat = k
        · rw [e] at hr
          rw [hr] at hz
          obtain rfl := Option.some.inj hz
          rw [hd] at hzd
          cases hzd
        · rw [List.getElem?_set_ne e]
          exact hz
      · cases h

theorem own_bool {w : World} {base g n cap k : Nat} {S : Nat → Prop} {e : TypeId} {l : List Bool} {x : Bool} (h : Own boolRep w base S e (.slice (some ⟨g, 0, none⟩) n cap) l) (hx : l[k]? = some x) :
    w.cell? ⟨g, k, none⟩ = some (.bool x) ∧ w.frozen? ⟨g, k, none⟩ = false := by
  obtain ⟨cs, u, ⟨rfl, _⟩, hu, hc, hf⟩ := h.cellAt hx (j := 0) (by simp [boolRep, Rep.flat])
  simp at hu
  subst hu
  have e : k * boolRep.size + 0 = k := by show k * 1 + 0 = k; omega
  rw [e] at hc hf
  exact ⟨hc, hf⟩

theorem own_bool_set {w : World} {base g n cap k : Nat} {S : Nat → Prop} {e : TypeId} {l : List Bool} {x : Bool} (y : Bool) (h : Own boolRep w base S e (.slice (some ⟨g, 0, none⟩) n cap) l) (hx : l[k]? = some x) :
    Own boolRep (w.setCell ⟨g, k, none⟩ (.bool y)) base S e (.slice (some ⟨g, 0, none⟩) n cap) (l.set k y) := by
  have := Own.store (j := 0) (a' := y) (cs := [.bool x]) (u := .bool y) flat_bool h hx (by rintro cs ⟨rfl, _⟩; rfl) (by simp [boolRep, Rep.flat]) ⟨rfl, trivial⟩
  have e : k * boolRep.size + 0 = k := by show k * 1 + 0 = k; omega
  rw [e] at this
  exact this

theorem take_snoc1 {α : Type} {l : List α} {k : Nat} {x : α} (h : l[k]? = some x) : l.take (k + 1) = l.take k ++ [x] := by
  obtain ⟨hk, rfl⟩ := List.getElem?_eq_some_iff.1 h
  exact List.take_succ_eq_append_getElem hk

theorem info_bool : (Try.prog.info? 4).map (fun i => (i.zero, i.size, i.bytes)) = some (some (.bool false), 1, 1) := by kernel_rfl

set_option maxRecDepth 100000 in
set_option maxHeartbeats 8000000 in
theorem reqOnce_walk (w : World) (A : Option Addr) (n c : Nat) (l : List Op14) (h : IsSl op14Rep w (· < w.heap.size) A n l) (_ : n ≤ c) (hcm : c ≤ maxLen) :
    Calls Try.prog 12 #[.slice A n c] w fun e w' => e = .returned (.bool true) ∧ Below w.heap.size w w' := by
  obtain ⟨i0, hi, hz0, hz1, hz2⟩ := info_parts info_bool
  have hmk := fun W : World => run_make_own (P := Try.prog) 67 4 i0 _ 1 1 Try.underlying67 hi hz0 hz1 hz2 .i64 .i64 8 8 rfl (by omega) (by omega) W
  have hnm : n ≤ 9223372036854775807 := by unfold maxLen at hcm; omega
  have h9w : (⟨9, 0, 0, 0, 0, 0, false⟩ : Req).wf := ⟨by unfold I64; dsimp only; omega, by unfold I64; dsimp only; omega, by unfold I64; dsimp only; omega, by unfold I64; dsimp only; omega, by unfold I64; dsimp only; omega, by unfold I64; dsimp only; omega⟩
  go_enter Try.func12, Try.ntmps12
  go_wp2_with fail
  go_loopw [3, 4] (fun v i wr => ∃ (p : Nat) (L : List Req) (A1 : Option Addr) (c1 : Nat), i = .int .i64 p ∧ p ≤ n ∧ p ≤ 60 ∧ v = .slice A1 L.length c1 ∧ IsSl reqRep wr (· < wr.heap.size) A1 L.length L ∧ mayB L = true ∧ Below w.heap.size w wr) (fun _ i _ => 60 - (intOf i).toNat)
  case atStart => exact ⟨0, [], none, 0, rfl, Nat.zero_le _, Nat.zero_le _, rfl, IsSl.nil, by decide, Below.refl _ _⟩
  case round =>
    obtain ⟨p, L, A1, c1, rfl, hpn, hp60, rfl, hsl, hmay, hbel⟩ := hrel
    obtain ⟨wo, rfl⟩ : ∃ wo : World, wo = wr := ⟨_, rfl⟩
    have SL := Lib.hid hsl
    have hL64 := may_len hmay
    have hsz := hbel.size
    have hOl : (openL L).length ≤ 281474976710656 := by have := openL_len L L.length; rw [List.take_length] at this; omega
    have HMAY := Lib.hid hmay
    obtain ⟨N, hN⟩ : ∃ N, N = L.length := ⟨_, rfl⟩
    rw [← hN] at SL hL64 ⊢
    have HN := Lib.hid hN
    clear hsl hmay hN
    by_cases hlt : p < n ∧ p < 60
    · obtain ⟨hl1, hl2⟩ := hlt
      obtain ⟨b0, off0, o, cs, rfl, hbS, hx, ⟨rfl, hwf⟩, hc⟩ := h.at_ hl1
      have hoc : ∀ w' : World, Below w.heap.size w w' → ∀ (j : Nat) (u : Value), o.cells[j]? = some u → w'.cell? ⟨b0, off0 + p * 7 + j, none⟩ = some u := fun w' hb j u hu => (hb.cell (p := ⟨b0, off0 + p * 7 + j, none⟩) hbS).trans (hc j u hu)
      have HOC := Lib.hid hoc
      have HW := Lib.hid hwf
      obtain ⟨x, hxx⟩ : ∃ x, x = smallF L o := ⟨_, rfl⟩
      have HX := Lib.hid hxx
      obtain ⟨m7, hm7⟩ : ∃ m7, m7 = modOf o.kind 7 := ⟨_, rfl⟩
      have hk7 := modOf_range o.kind 7 (by omega)
      rw [← hm7] at hk7
      have HM := Lib.hid hm7
      obtain ⟨R, hR⟩ : ∃ R, R = doO L o := ⟨_, rfl⟩
      have HR := Lib.hid hR
      obtain ⟨D, hD⟩ : ∃ D, D = R.getD [] := ⟨_, rfl⟩
      have HD := Lib.hid hD
      have k0 : wo.cell? ⟨b0, off0 + p * 7, none⟩ = some (.int .i64 o.kind) := HOC.out wo hbel 0 _ rfl
      have k1 : wo.cell? ⟨b0, off0 + p * 7 + 1, none⟩ = some (.int .i64 o.table) := HOC.out wo hbel 1 _ rfl
      have k2 : wo.cell? ⟨b0, off0 + p * 7 + 2, none⟩ = some (.int .i64 o.weight) := HOC.out wo hbel 2 _ rfl
      have k3 : wo.cell? ⟨b0, off0 + p * 7 + 3, none⟩ = some (.int .i64 o.id) := HOC.out wo hbel 3 _ rfl
      have k4 : wo.cell? ⟨b0, off0 + p * 7 + 4, none⟩ = some (.int .i64 o.at_) := HOC.out wo hbel 4 _ rfl
      have k5 : wo.cell? ⟨b0, off0 + p * 7 + 5, none⟩ = some (.int .i64 o.cursor) := HOC.out wo hbel 5 _ rfl
      have k6 : wo.cell? ⟨b0, off0 + p * 7 + 6, none⟩ = some (.bool o.done) := HOC.out wo hbel 6 _ rfl
      clear hc hx hwf hxx hm7 hR hoc hD
      by_cases h37 : m7 < 3
      · have HDO := Lib.hid (show R = acceptO L x.table x.weight x.at_ by rw [HR.out]; unfold doO; rw [← HM.out, if_pos h37, ← HX.out])
        cases R with
        | none =>
          go_wp2_with (first
            | (go_at_call 28; (with_reducible refine (small_any A1 N c1 L o _ SL.out (by omega) HW.out).mono ?_); rintro e w2 ⟨rfl, hwf2, bel2⟩; rw [← HX.out] at hwf2 ⊢; rw [show Value.agg x.cells.toArray = .agg #[.int .i64 x.kind, .int .i64 x.table, .int .i64 x.weight, .int .i64 x.id, .int .i64 x.at_, .int .i64 x.cursor, .bool x.done] from rfl]; have bw2 : Below w.heap.size w w2 := hbel.trans (bel2.mono hsz); have hs2 := bw2.size; have hbx := (Below.refl w2.heap.size w2).alloc (Nat.le_refl _) (.cells #[.int .i64 x.kind, .int .i64 x.table, .int .i64 x.weight, .int .i64 x.id, .int .i64 x.at_, .int .i64 x.cursor, .bool x.done] 50); have SLx := Lib.hid ((((SL.out.below bel2).more bel2.size).below hbx).more hbx.size); have BWX := Lib.hid (bw2.trans (hbx.mono hs2)); obtain ⟨_, xw1, xw2, xw3, xw4, xw5⟩ := hwf2; clear bel2 hbx)
            | (go_at_call 31; (with_reducible refine (chunk_any A1 N c1 L x.id x.cursor x.done _ SLx.out (by omega) xw3 xw5).mono ?_); rintro e w3 ⟨v3, rfl, own3, bel3⟩; have hs3 := bel3.size; have hw23 : w2.heap.size < w3.heap.size := (by simp at hs3; omega); have SL3 := Lib.hid ((SLx.out.below bel3).more hs3); have bw3 : Below w.heap.size w w3 := BWX.out.trans (bel3.mono BWX.out.size); have d0 : w3.cell? ⟨b0, off0 + p * 7, none⟩ = some (.int .i64 o.kind) := HOC.out w3 bw3 0 _ rfl; have d1 : w3.cell? ⟨b0, off0 + p * 7 + 1, none⟩ = some (.int .i64 o.table) := HOC.out w3 bw3 1 _ rfl; have d2 : w3.cell? ⟨b0, off0 + p * 7 + 2, none⟩ = some (.int .i64 o.weight) := HOC.out w3 bw3 2 _ rfl; have d3 : w3.cell? ⟨b0, off0 + p * 7 + 3, none⟩ = some (.int .i64 o.id) := HOC.out w3 bw3 3 _ rfl; have d4 : w3.cell? ⟨b0, off0 + p * 7 + 4, none⟩ = some (.int .i64 o.at_) := HOC.out w3 bw3 4 _ rfl; have d5 : w3.cell? ⟨b0, off0 + p * 7 + 5, none⟩ = some (.int .i64 o.cursor) := HOC.out w3 bw3 5 _ rfl; have d6 : w3.cell? ⟨b0, off0 + p * 7 + 6, none⟩ = some (.bool o.done) := HOC.out w3 bw3 6 _ rfl; have x1 : w3.cell? ⟨w2.heap.size, 1, none⟩ = some (.int .i64 x.table) := (bel3.cell (p := ⟨w2.heap.size, 1, none⟩) (by simp)).trans (World.cell?_alloc_at _ _ _ _ rfl); have x2 : w3.cell? ⟨w2.heap.size, 2, none⟩ = some (.int .i64 x.weight) := (bel3.cell (p := ⟨w2.heap.size, 2, none⟩) (by simp)).trans (World.cell?_alloc_at _ _ _ _ rfl); have x3 : w3.cell? ⟨w2.heap.size, 3, none⟩ = some (.int .i64 x.id) := (bel3.cell (p := ⟨w2.heap.size, 3, none⟩) (by simp)).trans (World.cell?_alloc_at _ _ _ _ rfl); have x4 : w3.cell? ⟨w2.heap.size, 4, none⟩ = some (.int .i64 x.at_) := (bel3.cell (p := ⟨w2.heap.size, 4, none⟩) (by simp)).trans (World.cell?_alloc_at _ _ _ _ rfl); have x5 : w3.cell? ⟨w2.heap.size, 5, none⟩ = some (.int .i64 x.cursor) := (bel3.cell (p := ⟨w2.heap.size, 5, none⟩) (by simp)).trans (World.cell?_alloc_at _ _ _ _ rfl); have x6 : w3.cell? ⟨w2.heap.size, 6, none⟩ = some (.bool x.done) := (bel3.cell (p := ⟨w2.heap.size, 6, none⟩) (by simp)).trans (World.cell?_alloc_at _ _ _ _ rfl); clear own3 bel3)
            | (go_at_call 19; (with_reducible refine (mod_any o.kind 7 _ (by omega) (by omega)).mono ?_); rintro e w' ⟨rfl, rfl⟩; rw [← HM.out])
            | (go_at_call 30; (with_reducible refine (accept_any A1 N c1 L x.table x.weight x.at_ _ SL3.out (by omega) xw1 xw2 xw4).mono ?_); rintro e w4 ⟨v4, rfl, own4, bel4⟩; rw [← HDO.out] at own4 ⊢; rw [← HD.out] at own4; obtain ⟨A4, c4, rfl, _, _, sm4⟩ := own4.isSlA; have SM4 := Lib.hid sm4; have hs4 := bel4.size; have SL4 := Lib.hid ((SL3.out.below bel4).more hs4); have bw4 : Below w.heap.size w w4 := bw3.trans (bel4.mono bw3.size); clear own4 sm4 bel4)
            | fail)
          go_roundw
          case rel => exact ⟨p + 1, L, A1, c1, by go_num, by omega, by omega, by rw [← HN.out], by rw [← HN.out]; exact SL4.out, HMAY.out, bw4⟩
          case measure => simp [intOf]; omega
        | some M =>
          have HDM := Lib.hid (show mayB D = true by rw [HD.out]; exact do_may HR.out.symm)
          have hD64 := may_len HDM.out
          have hshape := do_shape HR.out.symm
          have HKEEP := Lib.hid (show ∀ (k : Nat) (z : Req), L[k]? = some z → z.done = true → D[k]? = some z by rw [HD.out]; exact hshape.2)
          have hdl : N ≤ D.length ∧ D.length ≤ N + 1 := by rw [HD.out, HN.out]; exact hshape.1
          have hdl1 : decide ((D.length : Int) < (N : Int)) = false := by simp; omega
          have hdl2 : decide ((N : Int) + 1 < (D.length : Int)) = false := by simp; omega
          clear hshape
          have hshape := do_shape HR.out.symm
          have HKEEP := Lib.hid (show ∀ (k : Nat) (z : Req), L[k]? = some z → z.done = true → D[k]? = some z by rw [HD.out]; exact hshape.2)
          have hdl : N ≤ D.length ∧ D.length ≤ N + 1 := by rw [HD.out, HN.out]; exact hshape.1
          have hdl1 : decide ((D.length : Int) < (N : Int)) = false := by simp; omega
          have hdl2 : decide ((N : Int) + 1 < (D.length : Int)) = false := by simp; omega
          clear hshape
          go_wp2_with (first
            | (go_at_call 28; (with_reducible refine (small_any A1 N c1 L o _ SL.out (by omega) HW.out).mono ?_); rintro e w2 ⟨rfl, hwf2, bel2⟩; rw [← HX.out] at hwf2 ⊢; rw [show Value.agg x.cells.toArray = .agg #[.int .i64 x.kind, .int .i64 x.table, .int .i64 x.weight, .int .i64 x.id, .int .i64 x.at_, .int .i64 x.cursor, .bool x.done] from rfl]; have bw2 : Below w.heap.size w w2 := hbel.trans (bel2.mono hsz); have hs2 := bw2.size; have hbx := (Below.refl w2.heap.size w2).alloc (Nat.le_refl _) (.cells #[.int .i64 x.kind, .int .i64 x.table, .int .i64 x.weight, .int .i64 x.id, .int .i64 x.at_, .int .i64 x.cursor, .bool x.done] 50); have SLx := Lib.hid ((((SL.out.below bel2).more bel2.size).below hbx).more hbx.size); have BWX := Lib.hid (bw2.trans (hbx.mono hs2)); obtain ⟨_, xw1, xw2, xw3, xw4, xw5⟩ := hwf2; clear bel2 hbx)
            | (go_at_call 31; (with_reducible refine (chunk_any A1 N c1 L x.id x.cursor x.done _ SLx.out (by omega) xw3 xw5).mono ?_); rintro e w3 ⟨v3, rfl, own3, bel3⟩; have hs3 := bel3.size; have hw23 : w2.heap.size < w3.heap.size := (by simp at hs3; omega); have SL3 := Lib.hid ((SLx.out.below bel3).more hs3); have bw3 : Below w.heap.size w w3 := BWX.out.trans (bel3.mono BWX.out.size); have d0 : w3.cell? ⟨b0, off0 + p * 7, none⟩ = some (.int .i64 o.kind) := HOC.out w3 bw3 0 _ rfl; have d1 : w3.cell? ⟨b0, off0 + p * 7 + 1, none⟩ = some (.int .i64 o.table) := HOC.out w3 bw3 1 _ rfl; have d2 : w3.cell? ⟨b0, off0 + p * 7 + 2, none⟩ = some (.int .i64 o.weight) := HOC.out w3 bw3 2 _ rfl; have d3 : w3.cell? ⟨b0, off0 + p * 7 + 3, none⟩ = some (.int .i64 o.id) := HOC.out w3 bw3 3 _ rfl; have d4 : w3.cell? ⟨b0, off0 + p * 7 + 4, none⟩ = some (.int .i64 o.at_) := HOC.out w3 bw3 4 _ rfl; have d5 : w3.cell? ⟨b0, off0 + p * 7 + 5, none⟩ = some (.int .i64 o.cursor) := HOC.out w3 bw3 5 _ rfl; have d6 : w3.cell? ⟨b0, off0 + p * 7 + 6, none⟩ = some (.bool o.done) := HOC.out w3 bw3 6 _ rfl; have x1 : w3.cell? ⟨w2.heap.size, 1, none⟩ = some (.int .i64 x.table) := (bel3.cell (p := ⟨w2.heap.size, 1, none⟩) (by simp)).trans (World.cell?_alloc_at _ _ _ _ rfl); have x2 : w3.cell? ⟨w2.heap.size, 2, none⟩ = some (.int .i64 x.weight) := (bel3.cell (p := ⟨w2.heap.size, 2, none⟩) (by simp)).trans (World.cell?_alloc_at _ _ _ _ rfl); have x3 : w3.cell? ⟨w2.heap.size, 3, none⟩ = some (.int .i64 x.id) := (bel3.cell (p := ⟨w2.heap.size, 3, none⟩) (by simp)).trans (World.cell?_alloc_at _ _ _ _ rfl); have x4 : w3.cell? ⟨w2.heap.size, 4, none⟩ = some (.int .i64 x.at_) := (bel3.cell (p := ⟨w2.heap.size, 4, none⟩) (by simp)).trans (World.cell?_alloc_at _ _ _ _ rfl); have x5 : w3.cell? ⟨w2.heap.size, 5, none⟩ = some (.int .i64 x.cursor) := (bel3.cell (p := ⟨w2.heap.size, 5, none⟩) (by simp)).trans (World.cell?_alloc_at _ _ _ _ rfl); have x6 : w3.cell? ⟨w2.heap.size, 6, none⟩ = some (.bool x.done) := (bel3.cell (p := ⟨w2.heap.size, 6, none⟩) (by simp)).trans (World.cell?_alloc_at _ _ _ _ rfl); clear own3 bel3)
            | (go_at_call 19; (with_reducible refine (mod_any o.kind 7 _ (by omega) (by omega)).mono ?_); rintro e w' ⟨rfl, rfl⟩; rw [← HM.out])
            | (go_at_call 30; (with_reducible refine (accept_any A1 N c1 L x.table x.weight x.at_ _ SL3.out (by omega) xw1 xw2 xw4).mono ?_); rintro e w4 ⟨v4, rfl, own4, bel4⟩; rw [← HDO.out] at own4 ⊢; rw [← HD.out] at own4; obtain ⟨A4, c4, rfl, _, _, sm4⟩ := own4.isSlA; have SM4 := Lib.hid sm4; have hs4 := bel4.size; have SL4 := Lib.hid ((SL3.out.below bel4).more hs4); have bw4 : Below w.heap.size w w4 := bw3.trans (bel4.mono bw3.size); clear own4 sm4 bel4)
            | fail)
          obtain ⟨WM, hWM⟩ : ∃ WM, WM = w4.alloc (.cells (madeCells #[.bool false] 8) 4) := ⟨_, rfl⟩
          have ownM : Own boolRep WM w4.heap.size (fun _ => False) 4 (.slice (some ⟨w4.heap.size, 0, none⟩) 8 8) (opensL []) := by
            rw [hWM]
            exact Own.made (R := boolRep) w4 (.bool false) false 8 _ rfl (fun _ _ => ⟨rfl, trivial⟩) (by unfold maxLen; omega)
          have belM : Below w4.heap.size w4 WM := by rw [hWM]; exact (Below.refl _ _).alloc (Nat.le_refl _) _
          rw [← hWM]
          clear hWM
          obtain ⟨DL, hDL⟩ : ∃ DL, DL = D.length := ⟨_, rfl⟩
          rw [← hDL] at SM4 hD64 hdl hdl1 hdl2 ⊢
          have HDL := Lib.hid hDL
          clear hDL hdl1 hdl2
          go_loopw [9] (fun i wi => ∃ k : Nat, i = .int .i64 k ∧ k ≤ DL ∧ Own boolRep wi w4.heap.size (fun _ => False) 4 (.slice (some ⟨w4.heap.size, 0, none⟩) 8 8) (opensL (D.take k)) ∧ Below w4.heap.size w4 wi) (fun i _ => DL - (intOf i).toNat)
          case atStart => exact ⟨0, rfl, Nat.zero_le _, ownM, belM⟩
          case round =>
            obtain ⟨k, rfl, hk, hob, hbi⟩ := hrel
            have HOB := Lib.hid hob
            have hszi := hbi.size
            clear hob
            by_cases hlk : k < DL
            · obtain ⟨bm, om, y, cs, rfl, hbm, hy, ⟨rfl, _⟩, hyc⟩ := SM4.out.at_ hlk
              obtain ⟨t, hyt, ht8, hcl⟩ := may_at HDM.out hy
              have hyc2 : ∀ (j : Nat) (u : Value), y.cells[j]? = some u → wr.cell? ⟨bm, om + k * 7 + j, none⟩ = some u := fun j u hu => (hbi.cell (p := ⟨bm, om + k * 7 + j, none⟩) hbm).trans (hyc j u hu)
              have y0 : wr.cell? ⟨bm, om + k * 7, none⟩ = some (.int .i64 y.id) := hyc2 0 _ rfl
              have y1 : wr.cell? ⟨bm, om + k * 7 + 1, none⟩ = some (.int .i64 (t : Int)) := hyc2 1 _ (congrArg (fun a => some (Value.int .i64 a)) hyt)
              have y2 : wr.cell? ⟨bm, om + k * 7 + 2, none⟩ = some (.int .i64 y.weight) := hyc2 2 _ rfl
              have y3 : wr.cell? ⟨bm, om + k * 7 + 3, none⟩ = some (.int .i64 y.at_) := hyc2 3 _ rfl
              have y4 : wr.cell? ⟨bm, om + k * 7 + 4, none⟩ = some (.int .i64 y.cursor) := hyc2 4 _ rfl
              have y5 : wr.cell? ⟨bm, om + k * 7 + 5, none⟩ = some (.int .i64 y.chunks) := hyc2 5 _ rfl
              have y6 : wr.cell? ⟨bm, om + k * 7 + 6, none⟩ = some (.bool y.done) := hyc2 6 _ rfl
              have HY := Lib.hid hy
              have HYT := Lib.hid hyt
              rw [hyt] at hcl
              have hop := own_bool HOB.out (opensL_at (D.take k) ht8)
              rw [hcl] at hop
              obtain ⟨op0, op1⟩ := hop
              have HCL := Lib.hid hcl
              have ht0 : (0 : Int) ≤ (t : Int) := by omega
              have ht7 : decide ((7 : Int) < (t : Int)) = false := by simp; omega
              have ht1 : decide ((t : Int) < 0) = false := by simp
              have ht2 : (t : Int) < 8 := by omega
              obtain ⟨yd, hyd⟩ : ∃ yd, yd = y.done := ⟨_, rfl⟩
              rw [← hyd] at y6
              have HYD := Lib.hid hyd
              have HKY := Lib.hid (HKEEP.out k)
              clear hyc hyc2 hy hyt hcl hyd
              by_cases hkN : k < N
              · have hkd : decide ((k : Int) < (N : Int)) = true := by simp; omega
                obtain ⟨bl, ol, z, cs, hA1, hbl, hz, ⟨rfl, _⟩, hzc⟩ := SL4.out.at_ hkN
                subst hA1
                have hzc2 : ∀ (j : Nat) (u : Value), z.cells[j]? = some u → wr.cell? ⟨bl, ol + k * 7 + j, none⟩ = some u := fun j u hu => (hbi.cell (p := ⟨bl, ol + k * 7 + j, none⟩) hbl).trans (hzc j u hu)
                have z6 : wr.cell? ⟨bl, ol + k * 7 + 6, none⟩ = some (.bool z.done) := hzc2 6 _ rfl
                have HZ := Lib.hid hz
                clear hzc hz
                cases hzd : z.done with
                | true =>
                  have hzy := HKY.out z HZ.out hzd
                  rw [HY.out] at hzy
                  obtain rfl : y = z := Option.some.inj hzy
                  have hyd2 : yd = true := by rw [HYD.out]; exact hzd
                  subst hyd2
                  rw [hzd] at z6
                  have z0 : wr.cell? ⟨bl, ol + k * 7, none⟩ = some (.int .i64 y.id) := hzc2 0 _ rfl
                  have z1 : wr.cell? ⟨bl, ol + k * 7 + 1, none⟩ = some (.int .i64 (t : Int)) := hzc2 1 _ (congrArg (fun a => some (Value.int .i64 a)) HYT.out)
                  have z2 : wr.cell? ⟨bl, ol + k * 7 + 2, none⟩ = some (.int .i64 y.weight) := hzc2 2 _ rfl
                  have z3 : wr.cell? ⟨bl, ol + k * 7 + 3, none⟩ = some (.int .i64 y.at_) := hzc2 3 _ rfl
                  have z4 : wr.cell? ⟨bl, ol + k * 7 + 4, none⟩ = some (.int .i64 y.cursor) := hzc2 4 _ rfl
                  have z5 : wr.cell? ⟨bl, ol + k * 7 + 5, none⟩ = some (.int .i64 y.chunks) := hzc2 5 _ rfl
                  clear hzc2 hzy hzd
                  go_wp2_with fail
                  go_quiet (fail)
                  go_wp2_with fail
                  go_roundw
                  case rel => exact ⟨k + 1, by go_num, by omega, by rw [take_snoc1 HY.out, opensL_step _ y HYT.out ht8, if_pos HYD.out.symm]; exact HOB.out.drewN _, below_drewN hbi _⟩
                  case measure => simp [intOf]; omega
                | false =>
                  rw [hzd] at z6
                  clear hzc2
                  cases yd
                  · go_wp2_with fail
                    go_quiet (fail)
                    go_wp2_with fail
                    go_roundw
                    case rel =>
                      have hst := own_bool_set true HOB.out (opensL_at (D.take k) ht8)
                      have hee : opensL (D.take (k + 1)) = (opensL (D.take k)).set t true := by rw [take_snoc1 HY.out, opensL_step _ y HYT.out ht8, if_neg (by rw [← HYD.out]; decide)]
                      refine ⟨k + 1, by go_num, by omega, ?_, ?_⟩
                      · rw [hee]
                        first | exact hst.drewN _ | exact hst.drew | exact (hst.drewN _).drew | exact hst
                      · first | exact below_drewN (hbi.setCell (Nat.le_refl _) _) _ | exact (hbi.setCell (Nat.le_refl _) _).drew | exact (below_drewN (hbi.setCell (Nat.le_refl _) _) _).drew | exact hbi.setCell (Nat.le_refl _) _
                    case measure => simp [intOf]; omega
                  · go_wp2_with fail
                    go_quiet (fail)
                    go_wp2_with fail
                    go_roundw
                    case rel => exact ⟨k + 1, by go_num, by omega, by rw [take_snoc1 HY.out, opensL_step _ y HYT.out ht8, if_pos HYD.out.symm]; exact HOB.out.drewN _, below_drewN hbi _⟩
                    case measure => simp [intOf]; omega
              · have hkd : decide ((k : Int) < (N : Int)) = false := by simp; omega
                cases yd
                · go_wp2_with fail
                  go_quiet (fail)
                  go_wp2_with fail
                  go_roundw
                  case rel =>
                    have hst := own_bool_set true HOB.out (opensL_at (D.take k) ht8)
                    have hee : opensL (D.take (k + 1)) = (opensL (D.take k)).set t true := by rw [take_snoc1 HY.out, opensL_step _ y HYT.out ht8, if_neg (by rw [← HYD.out]; decide)]
                    refine ⟨k + 1, by go_num, by omega, ?_, ?_⟩
                    · rw [hee]
                      first | exact hst.drewN _ | exact hst.drew | exact (hst.drewN _).drew | exact hst
                    · first | exact below_drewN (hbi.setCell (Nat.le_refl _) _) _ | exact (hbi.setCell (Nat.le_refl _) _).drew | exact (below_drewN (hbi.setCell (Nat.le_refl _) _) _).drew | exact hbi.setCell (Nat.le_refl _) _
                  case measure => simp [intOf]; omega
                · go_wp2_with fail
                  go_quiet (fail)
                  go_wp2_with fail
                  go_roundw
                  case rel => exact ⟨k + 1, by go_num, by omega, by rw [take_snoc1 HY.out, opensL_step _ y HYT.out ht8, if_pos HYD.out.symm]; exact HOB.out.drewN _, below_drewN hbi _⟩
                  case measure => simp [intOf]; omega
            · obtain rfl : k = DL := by omega
              clear hlk
              go_wp2_with fail
              go_roundw
              case rel => exact ⟨p + 1, D, A4, c4, by go_num, by omega, by omega, by rw [← HDL.out], by rw [← HDL.out]; exact (SM4.out.below hbi).more hszi, HDM.out, bw4.trans (hbi.mono bw4.size)⟩
              case measure => simp [intOf]; omega
      · have HDO := Lib.hid (show R = chunkO L x.id x.cursor x.done by rw [HR.out]; unfold doO; rw [← HM.out, if_neg h37, ← HX.out])
        cases R with
        | none =>
          go_wp2_with (first
            | (go_at_call 28; (with_reducible refine (small_any A1 N c1 L o _ SL.out (by omega) HW.out).mono ?_); rintro e w2 ⟨rfl, hwf2, bel2⟩; rw [← HX.out] at hwf2 ⊢; rw [show Value.agg x.cells.toArray = .agg #[.int .i64 x.kind, .int .i64 x.table, .int .i64 x.weight, .int .i64 x.id, .int .i64 x.at_, .int .i64 x.cursor, .bool x.done] from rfl]; have bw2 : Below w.heap.size w w2 := hbel.trans (bel2.mono hsz); have hs2 := bw2.size; have hbx := (Below.refl w2.heap.size w2).alloc (Nat.le_refl _) (.cells #[.int .i64 x.kind, .int .i64 x.table, .int .i64 x.weight, .int .i64 x.id, .int .i64 x.at_, .int .i64 x.cursor, .bool x.done] 50); have SLx := Lib.hid ((((SL.out.below bel2).more bel2.size).below hbx).more hbx.size); have BWX := Lib.hid (bw2.trans (hbx.mono hs2)); obtain ⟨_, xw1, xw2, xw3, xw4, xw5⟩ := hwf2; clear bel2 hbx)
            | (go_at_call 31; (with_reducible refine (chunk_any A1 N c1 L x.id x.cursor x.done _ SLx.out (by omega) xw3 xw5).mono ?_); rintro e w4 ⟨v4, rfl, own4, bel4⟩; rw [← HDO.out] at own4 ⊢; rw [← HD.out] at own4; obtain ⟨A4, c4, rfl, _, _, sm4⟩ := own4.isSlA; have SM4 := Lib.hid sm4; have hs4 := bel4.size; have SL4 := Lib.hid ((SLx.out.below bel4).more hs4); have bw4 : Below w.heap.size w w4 := BWX.out.trans (bel4.mono BWX.out.size); have d0 : w4.cell? ⟨b0, off0 + p * 7, none⟩ = some (.int .i64 o.kind) := HOC.out w4 bw4 0 _ rfl; have d1 : w4.cell? ⟨b0, off0 + p * 7 + 1, none⟩ = some (.int .i64 o.table) := HOC.out w4 bw4 1 _ rfl; have d2 : w4.cell? ⟨b0, off0 + p * 7 + 2, none⟩ = some (.int .i64 o.weight) := HOC.out w4 bw4 2 _ rfl; have d3 : w4.cell? ⟨b0, off0 + p * 7 + 3, none⟩ = some (.int .i64 o.id) := HOC.out w4 bw4 3 _ rfl; have d4 : w4.cell? ⟨b0, off0 + p * 7 + 4, none⟩ = some (.int .i64 o.at_) := HOC.out w4 bw4 4 _ rfl; have d5 : w4.cell? ⟨b0, off0 + p * 7 + 5, none⟩ = some (.int .i64 o.cursor) := HOC.out w4 bw4 5 _ rfl; have d6 : w4.cell? ⟨b0, off0 + p * 7 + 6, none⟩ = some (.bool o.done) := HOC.out w4 bw4 6 _ rfl; clear own4 sm4 bel4)
            | (go_at_call 19; (with_reducible refine (mod_any o.kind 7 _ (by omega) (by omega)).mono ?_); rintro e w' ⟨rfl, rfl⟩; rw [← HM.out])
            | fail)
          go_roundw
          case rel => exact ⟨p + 1, L, A1, c1, by go_num, by omega, by omega, by rw [← HN.out], by rw [← HN.out]; exact SL4.out, HMAY.out, bw4⟩
          case measure => simp [intOf]; omega
        | some M =>
          have HDM := Lib.hid (show mayB D = true by rw [HD.out]; exact do_may HR.out.symm)
          have hD64 := may_len HDM.out
          have hshape := do_shape HR.out.symm
          have HKEEP := Lib.hid (show ∀ (k : Nat) (z : Req), L[k]? = some z → z.done = true → D[k]? = some z by rw [HD.out]; exact hshape.2)
          have hdl : N ≤ D.length ∧ D.length ≤ N + 1 := by rw [HD.out, HN.out]; exact hshape.1
          have hdl1 : decide ((D.length : Int) < (N : Int)) = false := by simp; omega
          have hdl2 : decide ((N : Int) + 1 < (D.length : Int)) = false := by simp; omega
          clear hshape
          have hshape := do_shape HR.out.symm
          have HKEEP := Lib.hid (show ∀ (k : Nat) (z : Req), L[k]? = some z → z.done = true → D[k]? = some z by rw [HD.out]; exact hshape.2)
          have hdl : N ≤ D.length ∧ D.length ≤ N + 1 := by rw [HD.out, HN.out]; exact hshape.1
          have hdl1 : decide ((D.length : Int) < (N : Int)) = false := by simp; omega
          have hdl2 : decide ((N : Int) + 1 < (D.length : Int)) = false := by simp; omega
          clear hshape
          go_wp2_with (first
            | (go_at_call 28; (with_reducible refine (small_any A1 N c1 L o _ SL.out (by omega) HW.out).mono ?_); rintro e w2 ⟨rfl, hwf2, bel2⟩; rw [← HX.out] at hwf2 ⊢; rw [show Value.agg x.cells.toArray = .agg #[.int .i64 x.kind, .int .i64 x.table, .int .i64 x.weight, .int .i64 x.id, .int .i64 x.at_, .int .i64 x.cursor, .bool x.done] from rfl]; have bw2 : Below w.heap.size w w2 := hbel.trans (bel2.mono hsz); have hs2 := bw2.size; have hbx := (Below.refl w2.heap.size w2).alloc (Nat.le_refl _) (.cells #[.int .i64 x.kind, .int .i64 x.table, .int .i64 x.weight, .int .i64 x.id, .int .i64 x.at_, .int .i64 x.cursor, .bool x.done] 50); have SLx := Lib.hid ((((SL.out.below bel2).more bel2.size).below hbx).more hbx.size); have BWX := Lib.hid (bw2.trans (hbx.mono hs2)); obtain ⟨_, xw1, xw2, xw3, xw4, xw5⟩ := hwf2; clear bel2 hbx)
            | (go_at_call 31; (with_reducible refine (chunk_any A1 N c1 L x.id x.cursor x.done _ SLx.out (by omega) xw3 xw5).mono ?_); rintro e w4 ⟨v4, rfl, own4, bel4⟩; rw [← HDO.out] at own4 ⊢; rw [← HD.out] at own4; obtain ⟨A4, c4, rfl, _, _, sm4⟩ := own4.isSlA; have SM4 := Lib.hid sm4; have hs4 := bel4.size; have SL4 := Lib.hid ((SLx.out.below bel4).more hs4); have bw4 : Below w.heap.size w w4 := BWX.out.trans (bel4.mono BWX.out.size); have d0 : w4.cell? ⟨b0, off0 + p * 7, none⟩ = some (.int .i64 o.kind) := HOC.out w4 bw4 0 _ rfl; have d1 : w4.cell? ⟨b0, off0 + p * 7 + 1, none⟩ = some (.int .i64 o.table) := HOC.out w4 bw4 1 _ rfl; have d2 : w4.cell? ⟨b0, off0 + p * 7 + 2, none⟩ = some (.int .i64 o.weight) := HOC.out w4 bw4 2 _ rfl; have d3 : w4.cell? ⟨b0, off0 + p * 7 + 3, none⟩ = some (.int .i64 o.id) := HOC.out w4 bw4 3 _ rfl; have d4 : w4.cell? ⟨b0, off0 + p * 7 + 4, none⟩ = some (.int .i64 o.at_) := HOC.out w4 bw4 4 _ rfl; have d5 : w4.cell? ⟨b0, off0 + p * 7 + 5, none⟩ = some (.int .i64 o.cursor) := HOC.out w4 bw4 5 _ rfl; have d6 : w4.cell? ⟨b0, off0 + p * 7 + 6, none⟩ = some (.bool o.done) := HOC.out w4 bw4 6 _ rfl; clear own4 sm4 bel4)
            | (go_at_call 19; (with_reducible refine (mod_any o.kind 7 _ (by omega) (by omega)).mono ?_); rintro e w' ⟨rfl, rfl⟩; rw [← HM.out])
            | fail)
          obtain ⟨WM, hWM⟩ : ∃ WM, WM = w4.alloc (.cells (madeCells #[.bool false] 8) 4) := ⟨_, rfl⟩
          have ownM : Own boolRep WM w4.heap.size (fun _ => False) 4 (.slice (some ⟨w4.heap.size, 0, none⟩) 8 8) (opensL []) := by
            rw [hWM]
            exact Own.made (R := boolRep) w4 (.bool false) false 8 _ rfl (fun _ _ => ⟨rfl, trivial⟩) (by unfold maxLen; omega)
          have belM : Below w4.heap.size w4 WM := by rw [hWM]; exact (Below.refl _ _).alloc (Nat.le_refl _) _
          rw [← hWM]
          clear hWM
          obtain ⟨DL, hDL⟩ : ∃ DL, DL = D.length := ⟨_, rfl⟩
          rw [← hDL] at SM4 hD64 hdl hdl1 hdl2 ⊢
          have HDL := Lib.hid hDL
          clear hDL hdl1 hdl2
          go_loopw [9] (fun i wi => ∃ k : Nat, i = .int .i64 k ∧ k ≤ DL ∧ Own boolRep wi w4.heap.size (fun _ => False) 4 (.slice (some ⟨w4.heap.size, 0, none⟩) 8 8) (opensL (D.take k)) ∧ Below w4.heap.size w4 wi) (fun i _ => DL - (intOf i).toNat)
          case atStart => exact ⟨0, rfl, Nat.zero_le _, ownM, belM⟩
          case round =>
            obtain ⟨k, rfl, hk, hob, hbi⟩ := hrel
            have HOB := Lib.hid hob
            have hszi := hbi.size
            clear hob
            by_cases hlk : k < DL
            · obtain ⟨bm, om, y, cs, rfl, hbm, hy, ⟨rfl, _⟩, hyc⟩ := SM4.out.at_ hlk
              obtain ⟨t, hyt, ht8, hcl⟩ := may_at HDM.out hy
              have hyc2 : ∀ (j : Nat) (u : Value), y.cells[j]? = some u → wr.cell? ⟨bm, om + k * 7 + j, none⟩ = some u := fun j u hu => (hbi.cell (p := ⟨bm, om + k * 7 + j, none⟩) hbm).trans (hyc j u hu)
              have y0 : wr.cell? ⟨bm, om + k * 7, none⟩ = some (.int .i64 y.id) := hyc2 0 _ rfl
              have y1 : wr.cell? ⟨bm, om + k * 7 + 1, none⟩ = some (.int .i64 (t : Int)) := hyc2 1 _ (congrArg (fun a => some (Value.int .i64 a)) hyt)
              have y2 : wr.cell? ⟨bm, om + k * 7 + 2, none⟩ = some (.int .i64 y.weight) := hyc2 2 _ rfl
              have y3 : wr.cell? ⟨bm, om + k * 7 + 3, none⟩ = some (.int .i64 y.at_) := hyc2 3 _ rfl
              have y4 : wr.cell? ⟨bm, om + k * 7 + 4, none⟩ = some (.int .i64 y.cursor) := hyc2 4 _ rfl
              have y5 : wr.cell? ⟨bm, om + k * 7 + 5, none⟩ = some (.int .i64 y.chunks) := hyc2 5 _ rfl
              have y6 : wr.cell? ⟨bm, om + k * 7 + 6, none⟩ = some (.bool y.done) := hyc2 6 _ rfl
              have HY := Lib.hid hy
              have HYT := Lib.hid hyt
              rw [hyt] at hcl
              have hop := own_bool HOB.out (opensL_at (D.take k) ht8)
              rw [hcl] at hop
              obtain ⟨op0, op1⟩ := hop
              have HCL := Lib.hid hcl
              have ht0 : (0 : Int) ≤ (t : Int) := by omega
              have ht7 : decide ((7 : Int) < (t : Int)) = false := by simp; omega
              have ht1 : decide ((t : Int) < 0) = false := by simp
              have ht2 : (t : Int) < 8 := by omega
              obtain ⟨yd, hyd⟩ : ∃ yd, yd = y.done := ⟨_, rfl⟩
              rw [← hyd] at y6
              have HYD := Lib.hid hyd
              have HKY := Lib.hid (HKEEP.out k)
              clear hyc hyc2 hy hyt hcl hyd
              by_cases hkN : k < N
              · have hkd : decide ((k : Int) < (N : Int)) = true := by simp; omega
                obtain ⟨bl, ol, z, cs, hA1, hbl, hz, ⟨rfl, _⟩, hzc⟩ := SL4.out.at_ hkN
                subst hA1
                have hzc2 : ∀ (j : Nat) (u : Value), z.cells[j]? = some u → wr.cell? ⟨bl, ol + k * 7 + j, none⟩ = some u := fun j u hu => (hbi.cell (p := ⟨bl, ol + k * 7 + j, none⟩) hbl).trans (hzc j u hu)
                have z6 : wr.cell? ⟨bl, ol + k * 7 + 6, none⟩ = some (.bool z.done) := hzc2 6 _ rfl
                have HZ := Lib.hid hz
                clear hzc hz
                cases hzd : z.done with
                | true =>
                  have hzy := HKY.out z HZ.out hzd
                  rw [HY.out] at hzy
                  obtain rfl : y = z := Option.some.inj hzy
                  have hyd2 : yd = true := by rw [HYD.out]; exact hzd
                  subst hyd2
                  rw [hzd] at z6
                  have z0 : wr.cell? ⟨bl, ol + k * 7, none⟩ = some (.int .i64 y.id) := hzc2 0 _ rfl
                  have z1 : wr.cell? ⟨bl, ol + k * 7 + 1, none⟩ = some (.int .i64 (t : Int)) := hzc2 1 _ (congrArg (fun a => some (Value.int .i64 a)) HYT.out)
                  have z2 : wr.cell? ⟨bl, ol + k * 7 + 2, none⟩ = some (.int .i64 y.weight) := hzc2 2 _ rfl
                  have z3 : wr.cell? ⟨bl, ol + k * 7 + 3, none⟩ = some (.int .i64 y.at_) := hzc2 3 _ rfl
                  have z4 : wr.cell? ⟨bl, ol + k * 7 + 4, none⟩ = some (.int .i64 y.cursor) := hzc2 4 _ rfl
                  have z5 : wr.cell? ⟨bl, ol + k * 7 + 5, none⟩ = some (.int .i64 y.chunks) := hzc2 5 _ rfl
                  clear hzc2 hzy hzd
                  go_wp2_with fail
                  go_quiet (fail)
                  go_wp2_with fail
                  go_roundw
                  case rel => exact ⟨k + 1, by go_num, by omega, by rw [take_snoc1 HY.out, opensL_step _ y HYT.out ht8, if_pos HYD.out.symm]; exact HOB.out.drewN _, below_drewN hbi _⟩
                  case measure => simp [intOf]; omega
                | false =>
                  rw [hzd] at z6
                  clear hzc2
                  cases yd
                  · go_wp2_with fail
                    go_quiet (fail)
                    go_wp2_with fail
                    go_roundw
                    case rel =>
                      have hst := own_bool_set true HOB.out (opensL_at (D.take k) ht8)
                      have hee : opensL (D.take (k + 1)) = (opensL (D.take k)).set t true := by rw [take_snoc1 HY.out, opensL_step _ y HYT.out ht8, if_neg (by rw [← HYD.out]; decide)]
                      refine ⟨k + 1, by go_num, by omega, ?_, ?_⟩
                      · rw [hee]
                        first | exact hst.drewN _ | exact hst.drew | exact (hst.drewN _).drew | exact hst
                      · first | exact below_drewN (hbi.setCell (Nat.le_refl _) _) _ | exact (hbi.setCell (Nat.le_refl _) _).drew | exact (below_drewN (hbi.setCell (Nat.le_refl _) _) _).drew | exact hbi.setCell (Nat.le_refl _) _
                    case measure => simp [intOf]; omega
                  · go_wp2_with fail
                    go_quiet (fail)
                    go_wp2_with fail
                    go_roundw
                    case rel => exact ⟨k + 1, by go_num, by omega, by rw [take_snoc1 HY.out, opensL_step _ y HYT.out ht8, if_pos HYD.out.symm]; exact HOB.out.drewN _, below_drewN hbi _⟩
                    case measure => simp [intOf]; omega
              · have hkd : decide ((k : Int) < (N : Int)) = false := by simp; omega
                cases yd
                · go_wp2_with fail
                  go_quiet (fail)
                  go_wp2_with fail
                  go_roundw
                  case rel =>
                    have hst := own_bool_set true HOB.out (opensL_at (D.take k) ht8)
                    have hee : opensL (D.take (k + 1)) = (opensL (D.take k)).set t true := by rw [take_snoc1 HY.out, opensL_step _ y HYT.out ht8, if_neg (by rw [← HYD.out]; decide)]
                    refine ⟨k + 1, by go_num, by omega, ?_, ?_⟩
                    · rw [hee]
                      first | exact hst.drewN _ | exact hst.drew | exact (hst.drewN _).drew | exact hst
                    · first | exact below_drewN (hbi.setCell (Nat.le_refl _) _) _ | exact (hbi.setCell (Nat.le_refl _) _).drew | exact (below_drewN (hbi.setCell (Nat.le_refl _) _) _).drew | exact hbi.setCell (Nat.le_refl _) _
                  case measure => simp [intOf]; omega
                · go_wp2_with fail
                  go_quiet (fail)
                  go_wp2_with fail
                  go_roundw
                  case rel => exact ⟨k + 1, by go_num, by omega, by rw [take_snoc1 HY.out, opensL_step _ y HYT.out ht8, if_pos HYD.out.symm]; exact HOB.out.drewN _, below_drewN hbi _⟩
                  case measure => simp [intOf]; omega
            · obtain rfl : k = DL := by omega
              clear hlk
              go_wp2_with fail
              go_roundw
              case rel => exact ⟨p + 1, D, A4, c4, by go_num, by omega, by omega, by rw [← HDL.out], by rw [← HDL.out]; exact (SM4.out.below hbi).more hszi, HDM.out, bw4.trans (hbi.mono bw4.size)⟩
              case measure => simp [intOf]; omega
    · have hend : n ≤ p ∨ (p < n ∧ p = 60) := by omega
      clear hlt
      rcases hend with hend | ⟨hend, rfl⟩
      all_goals
        go_wp2_with (first
          | (go_at_call 39; (with_reducible refine (awake14_any _).mono ?_); rintro e w5 ⟨rfl, bel5⟩)
          | fail)
        all_goals
          go_ret
          exact ⟨rfl, hbel.trans (bel5.mono hsz)⟩
end Go.Proofs.Ytmnjjmgdeiejkaa
