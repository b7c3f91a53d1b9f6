/- Contract of the reference's Set (qanatref07): Apply. -/
import Derived.Test.YthhpddiicnjmmaaSet4
set_option linter.unusedVariables false
set_option linter.unusedSimpArgs false
set_option maxRecDepth 100000
namespace Go.Proofs.Ythhpddiicnjmmaa
open Go.RowKit

theorem SetAt.same {w : World} {U U' : Nat → Prop} {gs bt : Nat} {tabs : List (List Row)} (h : SetAt w U gs bt tabs) (hU : ∀ k, U k → U' k) (hs : ∀ k, U' k → k < w.heap.size) (h1 : ¬ U' gs) (h2 : ¬ U' bt) : SetAt w U' gs bt tabs := by
  obtain ⟨vs, k1, k2, k3⟩ := h.tab
  refine ⟨h.blk, ⟨vs, k1, k2, fun t l hl => ?_⟩, hs, h1, h2, h.ng.2.2⟩
  obtain ⟨A, m, c, hv, sl, hc, hm⟩ := k3 t l hl
  exact ⟨A, m, c, hv, sl.weak hU, hc, hm⟩
theorem IsSl.wfs_chg {w : World} {S : Nat → Prop} {A : Option Addr} {n : Nat} {l : List Chg} (h : IsSl chgRep w S A n l) : ∀ r ∈ l, r.wf := by
  intro r hr
  obtain ⟨k, hk, rfl⟩ := List.mem_iff_getElem.1 hr
  obtain ⟨_, _, ct, ck, cg, cv, _, _, hx, hw, _⟩ := h.chgc (k := k) (by rw [h.len]; exact hk) (fun _ _ => rfl)
  rw [List.getElem?_eq_getElem hk] at hx
  rw [Option.some.inj hx]
  exact hw

set_option maxHeartbeats 16000000 in
set_option maxRecDepth 100000 in
theorem refapply_any (gs bt : Nat) (U : Nat → Prop) (tabs : List (List Row)) (A : Option Addr) (n c : Nat) (l : List Chg) (w : World) (h : SetAt w U gs bt tabs) (V : Nat → Prop) (hV : ∀ k, V k → k < w.heap.size) (hVb : ¬ V bt) (hl : IsSl chgRep w V A n l) (hin : ∀ c ∈ l, inSet tabs c.table = true) (hsm : ∀ x ∈ tabs, x.length + n ≤ 100000) (htl : tabs.length ≤ 100000) (hn : n ≤ 100000) :
    Calls Try.prog 89 #[.pointer (some ⟨gs, 0, none⟩), .slice A n c] w fun e w' => e = .returned (.bool true) ∧ SetAt w' (fun k => U k ∨ (w.heap.size ≤ k ∧ k < w'.heap.size)) gs bt (setAll tabs l) ∧ w.grownBy w' (some bt) := by
  have H := Lib.hid h
  have HL := Lib.hid hl
  have HN := Lib.hid hl.len
  have HU := Lib.hid h.hU
  have HV := Lib.hid hV
  have HIN := Lib.hid hin
  have HSM := Lib.hid hsm
  have HTL0 := Lib.hid htl
  have HNG := Lib.hid (show ¬ U gs ∧ ¬ U bt ∧ gs < w.heap.size ∧ bt < w.heap.size from ⟨h.ng.1, h.ng.2.1, h.lt⟩)
  have HGB0 := Lib.hid (show gs ≠ bt from h.ng.2.2)
  clear h hl hV hin hsm htl
  go_enter Try.func89, Try.ntmps89
  go_wp2
  go_loop [5] (fun i => ∃ p : Nat, i = .int .i64 p ∧ p ≤ n) (fun i => n - (intOf i).toNat)
  case atStart => exact ⟨0, rfl, Nat.zero_le _⟩
  case round =>
    obtain ⟨p, rfl, hp⟩ := hrel
    by_cases hlt : p < n
    · have hd : decide ((p : Int) < (n : Int)) = true := decide_eq_true (by omega)
      have hpi : (p : Int) < (n : Int) := by omega
      obtain ⟨bc, oc, cc, ck, cg, cv, rfl, hb, hx, -, e0, e1, e2, e3⟩ := HL.out.chgc hlt (fun _ _ => rfl)
      have HI := Lib.hid (show inSet tabs cc = true from HIN.out ⟨cc, ck, cg, cv⟩ (List.mem_of_getElem? hx))
      clear hx hb
      go_wp2_with (first
        | (go_at_call 88; (with_reducible refine (refsetis_any gs bt U tabs cc w H.out HTL0.out).mono ?_); rintro e w' ⟨rfl, rfl⟩; rw [HI.out])
        | fail)
      go_round
      case rel => exact ⟨p + 1, by go_num, by omega⟩
      case measure => simp [intOf]; omega
    · obtain rfl : n = p := by omega
      have hd : decide ((n : Int) < (n : Int)) = false := by simp
      clear hlt hp
      go_wp2_with fail
      go_loopw [6] (fun i wr => ∃ p : Nat, i = .int .i64 p ∧ p ≤ n ∧ SetAt wr (fun k => U k ∨ (w.heap.size ≤ k ∧ k < wr.heap.size)) gs bt (setAll tabs (l.take p)) ∧ w.grownBy wr (some bt)) (fun i _ => n - (intOf i).toNat)
      case atStart => exact ⟨0, rfl, Nat.zero_le _, H.out.same (fun k hk => .inl hk) (fun k hk => hk.elim (HU.out k) (·.2)) (by rintro (h | h); exact HNG.out.1 h; omega) (by rintro (h | h); exact HNG.out.2.1 h; omega), World.grownBy.refl w _⟩
      case round =>
        obtain ⟨p, rfl, hp, hst, hgr⟩ := hrel
        have GR := Lib.hid hgr
        by_cases hlt : p < n
        · have hd2 : decide ((p : Int) < (n : Int)) = true := decide_eq_true (by omega)
          have hpi : (p : Int) < (n : Int) := by omega
          obtain ⟨bc, oc, cc, ck, cg, cv, rfl, hb, hx, hcw, e0, e1, e2, e3⟩ := HL.out.chgc (w' := wr) hlt (fun q hq => World.cell?_of_block (GR.out.block _ (HV.out _ hq) (fun e => hVb (by injection e with e; rw [← e]; exact hq))))
          have HI := HIN.out ⟨cc, ck, cg, cv⟩ (List.mem_of_getElem? hx)
          obtain ⟨hi0, hi1⟩ := of_decide_eq_true HI
          obtain ⟨t, ht⟩ := Int.eq_ofNat_of_zero_le hi0
          (try dsimp only at ht hi1)
          subst ht
          have HCW := Lib.hid (show I64 ck ∧ cv.size ≤ maxLen from ⟨hcw.2.1, hcw.2.2⟩)
          obtain ⟨tb, htb⟩ : ∃ tb, tb = setAll tabs (l.take p) := ⟨_, rfl⟩
          have hlen : tb.length = tabs.length := by rw [htb, setAll_len]
          obtain ⟨U1, hU1⟩ : ∃ U1 : Nat → Prop, U1 = (fun k => U k ∨ (w.heap.size ≤ k ∧ k < wr.heap.size)) := ⟨_, rfl⟩
          rw [← htb, ← hU1] at hst
          obtain ⟨vs, kb, kv, kall⟩ := hst.tab
          have htt : t < tb.length := by rw [hlen]; omega
          have hget : tb[t]? = some tb[t] := List.getElem?_eq_getElem htt
          obtain ⟨At, mt, ct, hvt, slt, hmc, hcm⟩ := kall t _ hget
          obtain ⟨lt, hlt'⟩ : ∃ lt, lt = tb[t] := ⟨_, rfl⟩
          rw [← hlt'] at slt
          obtain ⟨N, hN⟩ : ∃ N, N = tb.length := ⟨_, rfl⟩
          have kg := hst.blk.1 0 _ rfl
          rw [← hN] at kg
          have kt := kb.1 t _ hvt
          have htN : (t : Int) < (N : Int) := by omega
          have HFZ := Lib.hid (kb.2.1 t)
          have ST := Lib.hid hst
          have HTL := Lib.hid htt
          have SLT := Lib.hid (show IsSl rowRep wr.drew U1 At mt lt from slt.keep (fun _ _ => rfl))
          have HMC := Lib.hid (And.intro hmc hcm)
          have HU1 := Lib.hid (show ∀ k, U1 k → k < wr.drew.heap.size from hst.hU)
          have HU1E := Lib.hid hU1
          have HGB := Lib.hid (show gs < wr.heap.size ∧ bt < wr.heap.size ∧ bc < wr.heap.size from ⟨hst.lt.1, hst.lt.2, Nat.lt_of_lt_of_le (HV.out _ hb) GR.out.size⟩)
          have HNE := Lib.hid (show bt ≠ gs ∧ bt ≠ bc from ⟨Ne.symm HGB0.out, fun e => hVb (by rw [e]; exact hb)⟩)
          have HLT := Lib.hid (show mt ≤ 100000 by
            rw [slt.len, hlt']
            have hmem : tb[t] ∈ setAll tabs (l.take p) := by rw [← htb]; exact List.getElem_mem htt
            have h1 := setAll_small (l.take p) tabs (100000 - n) (fun x hx => by have := HSM.out x hx; omega) _ hmem
            rw [List.length_take] at h1
            omega)
          have HSN := Lib.hid (show setAll tabs (l.take (p + 1)) = setPut tb ⟨(t : Int), ck, cg, cv⟩ by rw [take_snoc hx, setAll_snoc, ← htb])
          have HSE0 : setPut tb ⟨(t : Int), ck, cg, cv⟩ = tb.set t (if cg = true then delL lt ck else putL lt ck cv) := by
            unfold setPut
            dsimp only
            rw [Int.toNat_natCast, hget, Option.getD_some, ← hlt']
          clear hst hgr hb hx hcw HI hi0 hi1 htb hlen hU1 kb kv kall htt hget hvt slt hmc hcm hlt' hN
          cases cg
          · have HSE := Lib.hid (show setPut tb ⟨(t : Int), ck, false, cv⟩ = tb.set t (putL lt ck cv) from HSE0)
            clear HSE0
            go_wp2_with fail
            refine wp_region_held_drew (S := fun w' => w'.cell? ⟨gs, 0, none⟩ = some (.slice (some ⟨bt, 0, none⟩) N N) ∧ w'.cell? ⟨bc, oc + p * 4 + 1, none⟩ = some (.int .i64 ck) ∧ w'.cell? ⟨bc, oc + p * 4 + 3, none⟩ = some (.string cv)) (by kernel_rfl) (⟨kg, e1, e3⟩) (fun hHeld => ?_)
            (refine wpAnyH_take (i := 0) (v := ?_) rfl (by kernel_rfl) (by kernel_rfl) (by kernel_rfl) (fun _ _ _ h => h) (Or.inl ⟨by rfl, ?_⟩) hHeld ?_; rotate_left 1; focus (intro w hSw; (try dsimp only at hSw); go_simp; try with_reducible rfl)); (try simp only [Act.put, List.setIfInBounds_toArray, List.set_cons_zero, List.set_cons_succ])
            (refine wpAnyH_take (i := 1) (v := ?_) rfl (by kernel_rfl) (by kernel_rfl) (by kernel_rfl) (fun _ _ _ h => h) (Or.inl ⟨by rfl, ?_⟩) hHeld ?_; rotate_left 1; focus (intro w hSw; (try dsimp only at hSw); go_simp; try with_reducible rfl)); (try simp only [Act.put, List.setIfInBounds_toArray, List.set_cons_zero, List.set_cons_succ])
            (refine wpAnyH_take (i := 2) (v := ?_) rfl (by kernel_rfl) (by kernel_rfl) (by kernel_rfl) (fun _ _ _ h => h) (Or.inl ⟨by rfl, ?_⟩) hHeld ?_; rotate_left 1; focus (intro w hSw; (try dsimp only at hSw); go_simp; try with_reducible rfl)); (try simp only [Act.put, List.setIfInBounds_toArray, List.set_cons_zero, List.set_cons_succ])
            (refine wpAnyH_take (i := 3) (v := ?_) rfl (by kernel_rfl) (by kernel_rfl) (by kernel_rfl) (fun _ _ _ h => h) (Or.inl ⟨by rfl, ?_⟩) hHeld ?_; rotate_left 1; focus (intro w hSw; (try dsimp only at hSw); go_simp; try with_reducible rfl)); (try simp only [Act.put, List.setIfInBounds_toArray, List.set_cons_zero, List.set_cons_succ])
            (refine wpAnyH_take (i := 4) (v := ?_) rfl (by kernel_rfl) (by kernel_rfl) (by kernel_rfl) (fun _ _ _ h => h) (Or.inl ⟨by rfl, ?_⟩) hHeld ?_; rotate_left 1; focus (intro w hSw; (try dsimp only at hSw); go_simp; try with_reducible rfl)); (try simp only [Act.put, List.setIfInBounds_toArray, List.set_cons_zero, List.set_cons_succ])
            (refine wpAnyH_take (i := 5) (v := ?_) rfl (by kernel_rfl) (by kernel_rfl) (by kernel_rfl) (fun _ _ _ h => h) (Or.inl ⟨by rfl, ?_⟩) hHeld ?_; rotate_left 1; focus (intro w hSw; (try dsimp only at hSw); go_simp; try with_reducible rfl)); (try simp only [Act.put, List.setIfInBounds_toArray, List.set_cons_zero, List.set_cons_succ])
            (refine wpAnyH_take (i := 6) (v := ?_) rfl (by kernel_rfl) (by kernel_rfl) (by kernel_rfl) (fun _ _ _ h => h) (Or.inl ⟨by rfl, ?_⟩) hHeld ?_; rotate_left 1; focus (intro w hSw; (try dsimp only at hSw); go_simp; try with_reducible rfl)); (try simp only [Act.put, List.setIfInBounds_toArray, List.set_cons_zero, List.set_cons_succ])
            (refine wpAnyH_take (i := 7) (v := ?_) rfl (by kernel_rfl) (by kernel_rfl) (by kernel_rfl) (fun _ _ _ h => h) (Or.inl ⟨by rfl, ?_⟩) hHeld ?_; rotate_left 1; focus (intro w hSw; (try dsimp only at hSw); go_simp; try with_reducible rfl)); (try simp only [Act.put, List.setIfInBounds_toArray, List.set_cons_zero, List.set_cons_succ])
            (refine wpAnyH_take (i := 8) (v := ?_) rfl (by kernel_rfl) (by kernel_rfl) (by kernel_rfl) (fun _ _ _ h => h) (Or.inl ⟨by rfl, ?_⟩) hHeld ?_; rotate_left 1; focus (intro w hSw; (try dsimp only at hSw); go_simp; try with_reducible rfl)); (try simp only [Act.put, List.setIfInBounds_toArray, List.set_cons_zero, List.set_cons_succ])
            (refine wpAnyH_take (i := 9) (v := ?_) rfl (by kernel_rfl) (by kernel_rfl) (by kernel_rfl) (fun _ _ _ h => h) (Or.inl ⟨by rfl, ?_⟩) hHeld ?_; rotate_left 1; focus (intro w hSw; (try dsimp only at hSw); go_simp; try with_reducible rfl)); (try simp only [Act.put, List.setIfInBounds_toArray, List.set_cons_zero, List.set_cons_succ])
            (refine wpAnyH_take (i := 10) (v := ?_) rfl (by kernel_rfl) (by kernel_rfl) (by kernel_rfl) (fun _ _ _ h => h) (Or.inl ⟨by rfl, ?_⟩) hHeld ?_; rotate_left 1; focus (intro w hSw; (try dsimp only at hSw); go_simp; try with_reducible rfl)); (try simp only [Act.put, List.setIfInBounds_toArray, List.set_cons_zero, List.set_cons_succ])
            (refine wpAnyH_take (i := 12) (v := ?_) rfl (by kernel_rfl) (by kernel_rfl) (by kernel_rfl) (fun _ _ _ h => h) (Or.inl ⟨by rfl, ?_⟩) hHeld ?_; rotate_left 1; focus (intro w hSw; (try dsimp only at hSw); go_simp; try with_reducible rfl)); (try simp only [Act.put, List.setIfInBounds_toArray, List.set_cons_zero, List.set_cons_succ])
            (refine wpAnyH_take (i := 13) (v := ?_) rfl (by kernel_rfl) (by kernel_rfl) (by kernel_rfl) (fun _ _ _ h => h) (Or.inl ⟨by rfl, ?_⟩) hHeld ?_; rotate_left 1; focus (intro w hSw; (try dsimp only at hSw); go_simp; try with_reducible rfl)); (try simp only [Act.put, List.setIfInBounds_toArray, List.set_cons_zero, List.set_cons_succ])
            (refine wpAnyH_take (i := 14) (v := ?_) rfl (by kernel_rfl) (by kernel_rfl) (by kernel_rfl) (fun _ _ _ h => h) (Or.inl ⟨by rfl, ?_⟩) hHeld ?_; rotate_left 1; focus (intro w hSw; (try dsimp only at hSw); go_simp; try with_reducible rfl)); (try simp only [Act.put, List.setIfInBounds_toArray, List.set_cons_zero, List.set_cons_succ])
            (refine wpAnyH_take (i := 15) (v := ?_) rfl (by kernel_rfl) (by kernel_rfl) (by kernel_rfl) (fun _ _ _ h => h) (Or.inl ⟨by rfl, ?_⟩) hHeld ?_; rotate_left 1; focus (intro w hSw; (try dsimp only at hSw); go_simp; try with_reducible rfl)); (try simp only [Act.put, List.setIfInBounds_toArray, List.set_cons_zero, List.set_cons_succ])
            (refine wpAnyH_take (i := 16) (v := ?_) rfl (by kernel_rfl) (by kernel_rfl) (by kernel_rfl) (fun _ _ _ h => h) (Or.inl ⟨by rfl, ?_⟩) hHeld ?_; rotate_left 1; focus (intro w hSw; (try dsimp only at hSw); go_simp; try with_reducible rfl)); (try simp only [Act.put, List.setIfInBounds_toArray, List.set_cons_zero, List.set_cons_succ])
            (refine wpAnyH_take (i := 17) (v := ?_) rfl (by kernel_rfl) (by kernel_rfl) (by kernel_rfl) (fun _ _ _ h => h) (Or.inl ⟨by rfl, ?_⟩) hHeld ?_; rotate_left 1; focus (intro w hSw; (try dsimp only at hSw); go_simp; try with_reducible rfl)); (try simp only [Act.put, List.setIfInBounds_toArray, List.set_cons_zero, List.set_cons_succ])
            (refine wpAnyH_take (i := 18) (v := ?_) rfl (by kernel_rfl) (by kernel_rfl) (by kernel_rfl) (fun _ _ _ h => h) (Or.inl ⟨by rfl, ?_⟩) hHeld ?_; rotate_left 1; focus (intro w hSw; (try dsimp only at hSw); go_simp; try with_reducible rfl)); (try simp only [Act.put, List.setIfInBounds_toArray, List.set_cons_zero, List.set_cons_succ])
            (refine wpAnyH_take (i := 19) (v := ?_) rfl (by kernel_rfl) (by kernel_rfl) (by kernel_rfl) (fun _ _ _ h => h) (Or.inl ⟨by rfl, ?_⟩) hHeld ?_; rotate_left 1; focus (intro w hSw; (try dsimp only at hSw); go_simp; try with_reducible rfl)); (try simp only [Act.put, List.setIfInBounds_toArray, List.set_cons_zero, List.set_cons_succ])
            (refine wpAnyH_take (i := 20) (v := ?_) rfl (by kernel_rfl) (by kernel_rfl) (by kernel_rfl) (fun _ _ _ h => h) (Or.inl ⟨by rfl, ?_⟩) hHeld ?_; rotate_left 1; focus (intro w hSw; (try dsimp only at hSw); go_simp; try with_reducible rfl)); (try simp only [Act.put, List.setIfInBounds_toArray, List.set_cons_zero, List.set_cons_succ])
            (refine wpAnyH_take (i := 21) (v := ?_) rfl (by kernel_rfl) (by kernel_rfl) (by kernel_rfl) (fun _ _ _ h => h) (Or.inl ⟨by rfl, ?_⟩) hHeld ?_; rotate_left 1; focus (intro w hSw; (try dsimp only at hSw); go_simp; try with_reducible rfl)); (try simp only [Act.put, List.setIfInBounds_toArray, List.set_cons_zero, List.set_cons_succ])
            refine wpAnyH_ready (rs := [11]) (by kernel_rfl) (by simp) ?_
            refine AllReadyH.cons rfl (fun K hK => ?_) AllReadyH.nil
            go_simp
            refine hK.out _ _ (⟨kg, e1, e3⟩) (fun hHeld2 => ?_)
            clear hK K hHeld; have hHeld := hHeld2; clear hHeld2; (try simp only [Act.put, List.setIfInBounds_toArray, List.set_cons_zero, List.set_cons_succ])
            refine wpAnyH_ready (rs := [22]) (by kernel_rfl) (by simp) ?_
            refine AllReadyH.cons rfl (fun K hK => ?_) AllReadyH.nil
            go_simp
            go_at_call 58
            (with_reducible refine (rowPut_any At mt ct lt ck cv wr.drew U1 HU1.out SLT.out HLT.out HMC.out.1 HMC.out.2 HCW.out.1 HCW.out.2).mono ?_)
            rintro e w2 ⟨v2, b2, rfl, own2, bel2⟩
            obtain ⟨A2, c2, rfl, hmc2, hcm2, sl2'⟩ := own2.isSl (S' := fun k => U1 k ∨ (wr.drew.heap.size ≤ k ∧ k < w2.heap.size)) (fun _ h => h.elim) (fun k h1 h2 => .inr ⟨h1, h2⟩)
            obtain ⟨m2, hm2⟩ : ∃ m2, m2 = (putL lt ck cv).length := ⟨_, rfl⟩
            rw [← hm2] at sl2' hmc2 ⊢
            have sl2 := sl2'
            clear own2 sl2' hm2
            have SL2 := Lib.hid sl2
            have HM2 := Lib.hid (And.intro hmc2 hcm2)
            have B2 := Lib.hid (below_of_drew bel2)
            have kH2 : w2.cell? ⟨gs, 0, none⟩ = some (.slice (some ⟨bt, 0, none⟩) N N) ∧ w2.cell? ⟨bc, oc + p * 4 + 1, none⟩ = some (.int .i64 ck) ∧ w2.cell? ⟨bc, oc + p * 4 + 3, none⟩ = some (.string cv) := ⟨(B2.out.cell (p := ⟨gs, 0, none⟩) HGB.out.1).trans kg, (B2.out.cell (p := ⟨bc, _, none⟩) HGB.out.2.2).trans e1, (B2.out.cell (p := ⟨bc, _, none⟩) HGB.out.2.2).trans e3⟩
            have kB2 : (w2.cell? ⟨bt, t, none⟩).isSome = true := by rw [B2.out.cell (p := ⟨bt, t, none⟩) HGB.out.2.1, kt]; rfl
            have kBv : w2.cell? ⟨bt, t, none⟩ = some (.slice At mt ct) := (B2.out.cell (p := ⟨bt, t, none⟩) HGB.out.2.1).trans kt
            have kBf : w2.frozen? ⟨bt, t, none⟩ = false := (World.frozen?_of_block (B2.out.block bt HGB.out.2.1)).trans HFZ.out
            have kS2 : ∀ v : Value, (w2.setCell ⟨bt, t, none⟩ v).cell? ⟨gs, 0, none⟩ = some (.slice (some ⟨bt, 0, none⟩) N N) ∧ (w2.setCell ⟨bt, t, none⟩ v).cell? ⟨bc, oc + p * 4 + 1, none⟩ = some (.int .i64 ck) ∧ (w2.setCell ⟨bt, t, none⟩ v).cell? ⟨bc, oc + p * 4 + 3, none⟩ = some (.string cv) := fun v => ⟨(World.cell?_setCell_far w2 _ _ v HNE.out.1).trans kH2.1, (World.cell?_setCell_far w2 _ _ v HNE.out.2).trans kH2.2.1, (World.cell?_setCell_far w2 _ _ v HNE.out.2).trans kH2.2.2⟩
            have HKS2 := Lib.hid kS2
            have HKH2 := Lib.hid kH2
            clear sl2 hmc2 hcm2 bel2 kS2 kH2 kB2
            refine hK.out _ _ (HKH2.out) (fun hHeld2 => ?_)
            clear hK K hHeld; have hHeld := hHeld2; clear hHeld2; (try simp only [Act.put, List.setIfInBounds_toArray, List.set_cons_zero, List.set_cons_succ])
            (refine wpAnyH_take (i := 23) (v := ?_) rfl (by kernel_rfl) (by kernel_rfl) (by kernel_rfl) (fun _ _ _ h => h) (Or.inl ⟨by rfl, ?_⟩) hHeld ?_; rotate_left 1; focus (intro w hSw; (try dsimp only at hSw); go_simp; try with_reducible rfl)); (try simp only [Act.put, List.setIfInBounds_toArray, List.set_cons_zero, List.set_cons_succ])
            (refine wpAnyH_take (i := 24) (v := ?_) rfl (by kernel_rfl) (by kernel_rfl) (by kernel_rfl) (fun _ _ _ h => h) (Or.inl ⟨by rfl, ?_⟩) hHeld ?_; rotate_left 1; focus (intro w hSw; (try dsimp only at hSw); go_simp; try with_reducible rfl)); (try simp only [Act.put, List.setIfInBounds_toArray, List.set_cons_zero, List.set_cons_succ])
            (refine wpAnyH_take (i := 25) (v := ?_) rfl (by kernel_rfl) (by kernel_rfl) (by kernel_rfl) (fun _ _ _ h => h) (Or.inl ⟨by rfl, ?_⟩) hHeld ?_; rotate_left 1; focus (intro w hSw; (try dsimp only at hSw); go_simp; try with_reducible rfl)); (try simp only [Act.put, List.setIfInBounds_toArray, List.set_cons_zero, List.set_cons_succ])
            (refine wpAnyH_take (i := 26) (v := ?_) rfl (by kernel_rfl) (by kernel_rfl) (by kernel_rfl) (fun _ _ _ h => h) (Or.inl ⟨by rfl, ?_⟩) hHeld ?_; rotate_left 1; focus (intro w hSw; (try dsimp only at hSw); go_simp; try with_reducible rfl)); (try simp only [Act.put, List.setIfInBounds_toArray, List.set_cons_zero, List.set_cons_succ])
            refine wpAnyH_ready (rs := [27]) (by kernel_rfl) (by simp) ?_
            refine AllReadyH.cons rfl (fun K hK => ?_) AllReadyH.nil
            go_simp
            refine hK.out _ _ (HKS2.out _) (fun hHeld2 => ?_)
            clear hK K hHeld; have hHeld := hHeld2; clear hHeld2; (try simp only [Act.put, List.setIfInBounds_toArray, List.set_cons_zero, List.set_cons_succ])
            refine wpAnyH_done (by kernel_rfl) ?_ _
            go_wp2_with fail
            go_roundw
            case rel =>
              refine ⟨p + 1, by go_num, by omega, ?_, ?_⟩
              · rw [HSN.out]
                have hp := ST.out.put (t := t) (l := putL lt ck cv) B2.out HTL.out (SL2.out.weak (fun k hk => hk)) HM2.out.1 HM2.out.2
                have hq := hp.same (U' := fun k => U k ∨ (w.heap.size ≤ k ∧ k < (w2.setCell ⟨bt, t, none⟩ (.slice A2 m2 c2)).heap.size)) (fun k hk => by
                  have h1 := GR.out.size
                  have h2 := B2.out.size
                  rw [HU1E.out] at hk
                  rcases hk with (hk | hk) | hk
                  · exact .inl hk
                  · exact .inr ⟨by omega, by simp; omega⟩
                  · exact .inr ⟨by omega, by simpa using hk.2⟩) (fun k hk => by
                  have h1 := GR.out.size
                  have h2 := B2.out.size
                  rcases hk with hk | hk
                  · have := HU.out k hk; simp; omega
                  · exact hk.2) (by rintro (h | h); exact HNG.out.1 h; have := HNG.out.2.2.1; omega) (by rintro (h | h); exact HNG.out.2.1 h; have := HNG.out.2.2.2; omega)
                rw [HSE.out]
                exact hq
              · exact grown_trans GR.out (grown_trans (grown_of_below B2.out _) (grown_setB w2 ⟨bt, t, none⟩ _))
            case measure => simp [intOf]; omega
          · have HSE := Lib.hid (show setPut tb ⟨(t : Int), ck, true, cv⟩ = tb.set t (delL lt ck) from HSE0)
            clear HSE0
            go_wp2_with fail
            refine wp_region_held_drew (S := fun w' => w'.cell? ⟨gs, 0, none⟩ = some (.slice (some ⟨bt, 0, none⟩) N N) ∧ w'.cell? ⟨bc, oc + p * 4 + 1, none⟩ = some (.int .i64 ck) ∧ w'.cell? ⟨bc, oc + p * 4 + 3, none⟩ = some (.string cv)) (by kernel_rfl) (⟨kg, e1, e3⟩) (fun hHeld => ?_)
            (refine wpAnyH_take (i := 0) (v := ?_) rfl (by kernel_rfl) (by kernel_rfl) (by kernel_rfl) (fun _ _ _ h => h) (Or.inl ⟨by rfl, ?_⟩) hHeld ?_; rotate_left 1; focus (intro w hSw; (try dsimp only at hSw); go_simp; try with_reducible rfl)); (try simp only [Act.put, List.setIfInBounds_toArray, List.set_cons_zero, List.set_cons_succ])
            (refine wpAnyH_take (i := 1) (v := ?_) rfl (by kernel_rfl) (by kernel_rfl) (by kernel_rfl) (fun _ _ _ h => h) (Or.inl ⟨by rfl, ?_⟩) hHeld ?_; rotate_left 1; focus (intro w hSw; (try dsimp only at hSw); go_simp; try with_reducible rfl)); (try simp only [Act.put, List.setIfInBounds_toArray, List.set_cons_zero, List.set_cons_succ])
            (refine wpAnyH_take (i := 2) (v := ?_) rfl (by kernel_rfl) (by kernel_rfl) (by kernel_rfl) (fun _ _ _ h => h) (Or.inl ⟨by rfl, ?_⟩) hHeld ?_; rotate_left 1; focus (intro w hSw; (try dsimp only at hSw); go_simp; try with_reducible rfl)); (try simp only [Act.put, List.setIfInBounds_toArray, List.set_cons_zero, List.set_cons_succ])
            (refine wpAnyH_take (i := 3) (v := ?_) rfl (by kernel_rfl) (by kernel_rfl) (by kernel_rfl) (fun _ _ _ h => h) (Or.inl ⟨by rfl, ?_⟩) hHeld ?_; rotate_left 1; focus (intro w hSw; (try dsimp only at hSw); go_simp; try with_reducible rfl)); (try simp only [Act.put, List.setIfInBounds_toArray, List.set_cons_zero, List.set_cons_succ])
            (refine wpAnyH_take (i := 4) (v := ?_) rfl (by kernel_rfl) (by kernel_rfl) (by kernel_rfl) (fun _ _ _ h => h) (Or.inl ⟨by rfl, ?_⟩) hHeld ?_; rotate_left 1; focus (intro w hSw; (try dsimp only at hSw); go_simp; try with_reducible rfl)); (try simp only [Act.put, List.setIfInBounds_toArray, List.set_cons_zero, List.set_cons_succ])
            (refine wpAnyH_take (i := 5) (v := ?_) rfl (by kernel_rfl) (by kernel_rfl) (by kernel_rfl) (fun _ _ _ h => h) (Or.inl ⟨by rfl, ?_⟩) hHeld ?_; rotate_left 1; focus (intro w hSw; (try dsimp only at hSw); go_simp; try with_reducible rfl)); (try simp only [Act.put, List.setIfInBounds_toArray, List.set_cons_zero, List.set_cons_succ])
            (refine wpAnyH_take (i := 6) (v := ?_) rfl (by kernel_rfl) (by kernel_rfl) (by kernel_rfl) (fun _ _ _ h => h) (Or.inl ⟨by rfl, ?_⟩) hHeld ?_; rotate_left 1; focus (intro w hSw; (try dsimp only at hSw); go_simp; try with_reducible rfl)); (try simp only [Act.put, List.setIfInBounds_toArray, List.set_cons_zero, List.set_cons_succ])
            (refine wpAnyH_take (i := 7) (v := ?_) rfl (by kernel_rfl) (by kernel_rfl) (by kernel_rfl) (fun _ _ _ h => h) (Or.inl ⟨by rfl, ?_⟩) hHeld ?_; rotate_left 1; focus (intro w hSw; (try dsimp only at hSw); go_simp; try with_reducible rfl)); (try simp only [Act.put, List.setIfInBounds_toArray, List.set_cons_zero, List.set_cons_succ])
            (refine wpAnyH_take (i := 8) (v := ?_) rfl (by kernel_rfl) (by kernel_rfl) (by kernel_rfl) (fun _ _ _ h => h) (Or.inl ⟨by rfl, ?_⟩) hHeld ?_; rotate_left 1; focus (intro w hSw; (try dsimp only at hSw); go_simp; try with_reducible rfl)); (try simp only [Act.put, List.setIfInBounds_toArray, List.set_cons_zero, List.set_cons_succ])
            (refine wpAnyH_take (i := 9) (v := ?_) rfl (by kernel_rfl) (by kernel_rfl) (by kernel_rfl) (fun _ _ _ h => h) (Or.inl ⟨by rfl, ?_⟩) hHeld ?_; rotate_left 1; focus (intro w hSw; (try dsimp only at hSw); go_simp; try with_reducible rfl)); (try simp only [Act.put, List.setIfInBounds_toArray, List.set_cons_zero, List.set_cons_succ])
            (refine wpAnyH_take (i := 10) (v := ?_) rfl (by kernel_rfl) (by kernel_rfl) (by kernel_rfl) (fun _ _ _ h => h) (Or.inl ⟨by rfl, ?_⟩) hHeld ?_; rotate_left 1; focus (intro w hSw; (try dsimp only at hSw); go_simp; try with_reducible rfl)); (try simp only [Act.put, List.setIfInBounds_toArray, List.set_cons_zero, List.set_cons_succ])
            (refine wpAnyH_take (i := 12) (v := ?_) rfl (by kernel_rfl) (by kernel_rfl) (by kernel_rfl) (fun _ _ _ h => h) (Or.inl ⟨by rfl, ?_⟩) hHeld ?_; rotate_left 1; focus (intro w hSw; (try dsimp only at hSw); go_simp; try with_reducible rfl)); (try simp only [Act.put, List.setIfInBounds_toArray, List.set_cons_zero, List.set_cons_succ])
            (refine wpAnyH_take (i := 13) (v := ?_) rfl (by kernel_rfl) (by kernel_rfl) (by kernel_rfl) (fun _ _ _ h => h) (Or.inl ⟨by rfl, ?_⟩) hHeld ?_; rotate_left 1; focus (intro w hSw; (try dsimp only at hSw); go_simp; try with_reducible rfl)); (try simp only [Act.put, List.setIfInBounds_toArray, List.set_cons_zero, List.set_cons_succ])
            (refine wpAnyH_take (i := 14) (v := ?_) rfl (by kernel_rfl) (by kernel_rfl) (by kernel_rfl) (fun _ _ _ h => h) (Or.inl ⟨by rfl, ?_⟩) hHeld ?_; rotate_left 1; focus (intro w hSw; (try dsimp only at hSw); go_simp; try with_reducible rfl)); (try simp only [Act.put, List.setIfInBounds_toArray, List.set_cons_zero, List.set_cons_succ])
            (refine wpAnyH_take (i := 15) (v := ?_) rfl (by kernel_rfl) (by kernel_rfl) (by kernel_rfl) (fun _ _ _ h => h) (Or.inl ⟨by rfl, ?_⟩) hHeld ?_; rotate_left 1; focus (intro w hSw; (try dsimp only at hSw); go_simp; try with_reducible rfl)); (try simp only [Act.put, List.setIfInBounds_toArray, List.set_cons_zero, List.set_cons_succ])
            (refine wpAnyH_take (i := 16) (v := ?_) rfl (by kernel_rfl) (by kernel_rfl) (by kernel_rfl) (fun _ _ _ h => h) (Or.inl ⟨by rfl, ?_⟩) hHeld ?_; rotate_left 1; focus (intro w hSw; (try dsimp only at hSw); go_simp; try with_reducible rfl)); (try simp only [Act.put, List.setIfInBounds_toArray, List.set_cons_zero, List.set_cons_succ])
            refine wpAnyH_ready (rs := [11]) (by kernel_rfl) (by simp) ?_
            refine AllReadyH.cons rfl (fun K hK => ?_) AllReadyH.nil
            go_simp
            refine hK.out _ _ (⟨kg, e1, e3⟩) (fun hHeld2 => ?_)
            clear hK K hHeld; have hHeld := hHeld2; clear hHeld2; (try simp only [Act.put, List.setIfInBounds_toArray, List.set_cons_zero, List.set_cons_succ])
            refine wpAnyH_ready (rs := [17]) (by kernel_rfl) (by simp) ?_
            refine AllReadyH.cons rfl (fun K hK => ?_) AllReadyH.nil
            go_simp
            go_at_call 138
            (with_reducible refine (refdel_any At mt ct lt ck wr.drew U1 HU1.out SLT.out HLT.out HMC.out.1 HMC.out.2).mono ?_)
            rintro e w2 ⟨A2, m2, c2, b2, rfl, sl2, hmc2, hcm2, bel2⟩
            have SL2 := Lib.hid sl2
            have HM2 := Lib.hid (And.intro hmc2 hcm2)
            have B2 := Lib.hid (below_of_drew bel2)
            have kH2 : w2.cell? ⟨gs, 0, none⟩ = some (.slice (some ⟨bt, 0, none⟩) N N) ∧ w2.cell? ⟨bc, oc + p * 4 + 1, none⟩ = some (.int .i64 ck) ∧ w2.cell? ⟨bc, oc + p * 4 + 3, none⟩ = some (.string cv) := ⟨(B2.out.cell (p := ⟨gs, 0, none⟩) HGB.out.1).trans kg, (B2.out.cell (p := ⟨bc, _, none⟩) HGB.out.2.2).trans e1, (B2.out.cell (p := ⟨bc, _, none⟩) HGB.out.2.2).trans e3⟩
            have kB2 : (w2.cell? ⟨bt, t, none⟩).isSome = true := by rw [B2.out.cell (p := ⟨bt, t, none⟩) HGB.out.2.1, kt]; rfl
            have kBv : w2.cell? ⟨bt, t, none⟩ = some (.slice At mt ct) := (B2.out.cell (p := ⟨bt, t, none⟩) HGB.out.2.1).trans kt
            have kBf : w2.frozen? ⟨bt, t, none⟩ = false := (World.frozen?_of_block (B2.out.block bt HGB.out.2.1)).trans HFZ.out
            have kS2 : ∀ v : Value, (w2.setCell ⟨bt, t, none⟩ v).cell? ⟨gs, 0, none⟩ = some (.slice (some ⟨bt, 0, none⟩) N N) ∧ (w2.setCell ⟨bt, t, none⟩ v).cell? ⟨bc, oc + p * 4 + 1, none⟩ = some (.int .i64 ck) ∧ (w2.setCell ⟨bt, t, none⟩ v).cell? ⟨bc, oc + p * 4 + 3, none⟩ = some (.string cv) := fun v => ⟨(World.cell?_setCell_far w2 _ _ v HNE.out.1).trans kH2.1, (World.cell?_setCell_far w2 _ _ v HNE.out.2).trans kH2.2.1, (World.cell?_setCell_far w2 _ _ v HNE.out.2).trans kH2.2.2⟩
            have HKS2 := Lib.hid kS2
            have HKH2 := Lib.hid kH2
            clear sl2 hmc2 hcm2 bel2 kS2 kH2 kB2
            refine hK.out _ _ (HKH2.out) (fun hHeld2 => ?_)
            clear hK K hHeld; have hHeld := hHeld2; clear hHeld2; (try simp only [Act.put, List.setIfInBounds_toArray, List.set_cons_zero, List.set_cons_succ])
            (refine wpAnyH_take (i := 18) (v := ?_) rfl (by kernel_rfl) (by kernel_rfl) (by kernel_rfl) (fun _ _ _ h => h) (Or.inl ⟨by rfl, ?_⟩) hHeld ?_; rotate_left 1; focus (intro w hSw; (try dsimp only at hSw); go_simp; try with_reducible rfl)); (try simp only [Act.put, List.setIfInBounds_toArray, List.set_cons_zero, List.set_cons_succ])
            (refine wpAnyH_take (i := 19) (v := ?_) rfl (by kernel_rfl) (by kernel_rfl) (by kernel_rfl) (fun _ _ _ h => h) (Or.inl ⟨by rfl, ?_⟩) hHeld ?_; rotate_left 1; focus (intro w hSw; (try dsimp only at hSw); go_simp; try with_reducible rfl)); (try simp only [Act.put, List.setIfInBounds_toArray, List.set_cons_zero, List.set_cons_succ])
            (refine wpAnyH_take (i := 20) (v := ?_) rfl (by kernel_rfl) (by kernel_rfl) (by kernel_rfl) (fun _ _ _ h => h) (Or.inl ⟨by rfl, ?_⟩) hHeld ?_; rotate_left 1; focus (intro w hSw; (try dsimp only at hSw); go_simp; try with_reducible rfl)); (try simp only [Act.put, List.setIfInBounds_toArray, List.set_cons_zero, List.set_cons_succ])
            (refine wpAnyH_take (i := 21) (v := ?_) rfl (by kernel_rfl) (by kernel_rfl) (by kernel_rfl) (fun _ _ _ h => h) (Or.inl ⟨by rfl, ?_⟩) hHeld ?_; rotate_left 1; focus (intro w hSw; (try dsimp only at hSw); go_simp; try with_reducible rfl)); (try simp only [Act.put, List.setIfInBounds_toArray, List.set_cons_zero, List.set_cons_succ])
            refine wpAnyH_ready (rs := [22]) (by kernel_rfl) (by simp) ?_
            refine AllReadyH.cons rfl (fun K hK => ?_) AllReadyH.nil
            go_simp
            refine hK.out _ _ (HKS2.out _) (fun hHeld2 => ?_)
            clear hK K hHeld; have hHeld := hHeld2; clear hHeld2; (try simp only [Act.put, List.setIfInBounds_toArray, List.set_cons_zero, List.set_cons_succ])
            refine wpAnyH_done (by kernel_rfl) ?_ _
            go_wp2_with fail
            go_roundw
            case rel =>
              refine ⟨p + 1, by go_num, by omega, ?_, ?_⟩
              · rw [HSN.out]
                have hp := ST.out.put (t := t) (l := delL lt ck) B2.out HTL.out (SL2.out.weak (fun k hk => hk)) HM2.out.1 HM2.out.2
                have hq := hp.same (U' := fun k => U k ∨ (w.heap.size ≤ k ∧ k < (w2.setCell ⟨bt, t, none⟩ (.slice A2 m2 c2)).heap.size)) (fun k hk => by
                  have h1 := GR.out.size
                  have h2 := B2.out.size
                  rw [HU1E.out] at hk
                  rcases hk with (hk | hk) | hk
                  · exact .inl hk
                  · exact .inr ⟨by omega, by simp; omega⟩
                  · exact .inr ⟨by omega, by simpa using hk.2⟩) (fun k hk => by
                  have h1 := GR.out.size
                  have h2 := B2.out.size
                  rcases hk with hk | hk
                  · have := HU.out k hk; simp; omega
                  · exact hk.2) (by rintro (h | h); exact HNG.out.1 h; have := HNG.out.2.2.1; omega) (by rintro (h | h); exact HNG.out.2.1 h; have := HNG.out.2.2.2; omega)
                rw [HSE.out]
                exact hq
              · exact grown_trans GR.out (grown_trans (grown_of_below B2.out _) (grown_setB w2 ⟨bt, t, none⟩ _))
            case measure => simp [intOf]; omega
        · obtain rfl : n = p := by omega
          have hta : l.take n = l := List.take_of_length_le (by rw [← HN.out]; exact Nat.le_refl _)
          rw [hta] at hst
          have ST := Lib.hid hst
          clear hst hgr hta hlt hp
          go_wp2_with fail
          go_ret
          exact ⟨rfl, ST.out, GR.out⟩
end Go.Proofs.Ythhpddiicnjmmaa
