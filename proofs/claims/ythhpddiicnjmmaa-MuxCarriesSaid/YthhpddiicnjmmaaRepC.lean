/- Contract of the reference's replica: Put. -/
import Derived.Test.YthhpddiicnjmmaaRepD
import Derived.Deep.RegionHeld3
import Derived.Deep.QuietTactic
import Derived.BigQuiet
set_option linter.unusedVariables false
set_option linter.unusedSimpArgs false
set_option maxRecDepth 100000
namespace Go.Proofs.Ythhpddiicnjmmaa
open Go.RowKit

theorem IsSl.oneC {α : Type} {R : Rep α} {w : World} {S : Nat → Prop} {b : Nat} {a : α} {cs : List Value} (hb : Blk w b cs) (hS : S b) (h : R.rel w S a cs) : IsSl R w S (some ⟨b, 0, none⟩) 1 [a] :=
  ⟨rfl, [cs], Rows.single h, fun _ => ⟨b, 0, rfl, hS, fun j u hu => by rw [Nat.zero_add]; exact hb.1 j u (by simpa using hu)⟩⟩
theorem putC_len : ∀ (l : List Cell) (o : Opr), (putC l o).length ≤ l.length + 1
  | [], _ => by simp [putC]
  | c :: t, o => by
    rw [putC]
    have := putC_len t o
    split
    · simp; omega
    · split
      · split <;> simp
      · simp
/-- Where the cell is put. -/
theorem putC_at : ∀ (l : List Cell) (o : Opr) (p : Nat), p ≤ l.length → (∀ c ∈ l.take p, c.key < o.key) → (∀ c, l[p]? = some c → ¬ c.key < o.key) →
    putC l o = match l[p]? with | some x => (if x.key = o.key then (if o.lsn < x.lsn then l else l.take p ++ [cellOf o] ++ l.drop (p + 1)) else l.take p ++ [cellOf o] ++ l.drop p) | none => l.take p ++ [cellOf o] ++ l.drop p
  | [], o, p, hp, _, _ => by
    obtain rfl : p = 0 := by simpa using hp
    rfl
  | c :: t, o, 0, _, _, h => by
    have h1 := h c rfl
    rw [putC, if_neg h1]
    rfl
  | c :: t, o, p + 1, hp, h1, h2 => by
    have hk := h1 c (by simp)
    have ih := putC_at t o p (by simpa using hp) (fun d hd => h1 d (by simp [hd])) (fun d hd => h2 d (by simpa using hd))
    rw [putC, if_pos hk, ih, List.getElem?_cons_succ]
    cases t[p]? with
    | none => rfl
    | some x =>
      dsimp only
      by_cases e : x.key = o.key
      · rw [if_pos e, if_pos e]
        by_cases e2 : o.lsn < x.lsn
        · rw [if_pos e2, if_pos e2]
        · rw [if_neg e2, if_neg e2]; rfl
      · rw [if_neg e, if_neg e]; rfl
theorem IsSl.oprT {w w' : World} {T : Nat → Prop} {n k : Nat} {A : Option Addr} {l : List Opr} (h : IsSl oprRep w T A n l) (hk : k < n) (hw : ∀ p : Addr, T p.block → w'.cell? p = w.cell? p) :
    ∃ b off x, A = some ⟨b, off, none⟩ ∧ T b ∧ l[k]? = some x ∧ x.wf ∧ w'.cell? ⟨b, off + k * 5, none⟩ = some (.int .i64 x.lsn) ∧ w'.cell? ⟨b, off + k * 5 + 1, none⟩ = some (.int .i64 x.table) ∧ w'.cell? ⟨b, off + k * 5 + 2, none⟩ = some (.int .i64 x.key) ∧ w'.cell? ⟨b, off + k * 5 + 3, none⟩ = some (.bool x.gone) ∧ w'.cell? ⟨b, off + k * 5 + 4, none⟩ = some (.string x.val) := by
  obtain ⟨b, off, x, cs, rfl, hb, hx, ⟨rfl, hw2⟩, hc⟩ := h.at_ hk
  exact ⟨b, off, x, rfl, hb, hx, hw2, (hw _ hb).trans (hc 0 _ rfl), (hw _ hb).trans (hc 1 _ rfl), (hw _ hb).trans (hc 2 _ rfl), (hw _ hb).trans (hc 3 _ rfl), (hw _ hb).trans (hc 4 _ rfl)⟩
theorem repPut_small (tabs : List (List Cell)) (o : Opr) (b : Nat) (h : ∀ l ∈ tabs, l.length ≤ b) : ∀ l ∈ repPut tabs o, l.length ≤ b + 1 := by
  intro l hl
  unfold repPut at hl
  rcases List.mem_or_eq_of_mem_set hl with hl | hl
  · have := h l hl; omega
  · have hb : ((tabs[o.table.toNat]?).getD []).length ≤ b := by
      cases e : tabs[o.table.toNat]? with
      | none => simp
      | some x => exact h x (List.mem_of_getElem? e)
    subst hl
    have := putC_len ((tabs[o.table.toNat]?).getD []) o
    omega
theorem repAll_small : ∀ (l : List Opr) (tabs : List (List Cell)) (b : Nat), (∀ x ∈ tabs, x.length ≤ b) → ∀ x ∈ repAll tabs l, x.length ≤ b + l.length
  | [], _, _, h => h
  | c :: t, tabs, b, h => by
    intro x hx
    have := repAll_small t (repPut tabs c) (b + 1) (repPut_small tabs c b h) x hx
    simp; omega

def RepPost (w : World) (U : Nat → Prop) (gs bt : Nat) (tabs : List (List Cell)) (l : List Opr) (e : Ending) (w' : World) : Prop :=
  (∃ q, e = .returned (.int .i64 q)) ∧ RepAt w' (fun k => U k ∨ (w.heap.size ≤ k ∧ k < w'.heap.size)) gs bt (repAll tabs l) ∧ w.grownBy w' (some bt)

set_option maxHeartbeats 16000000 in
theorem repput_any (gs bt : Nat) (U : Nat → Prop) (tabs : List (List Cell)) (A : Option Addr) (n c : Nat) (l : List Opr) (w : World) (h : RepAt w U gs bt tabs) (V : Nat → Prop) (hV : ∀ k, V k → k < w.heap.size) (hVb : ¬ V bt) (hl : IsSl oprRep w V A n l) (hin : ∀ o ∈ l, 0 ≤ o.table ∧ o.table < (tabs.length : Int)) (hsm : ∀ x ∈ tabs, x.length + n ≤ 100000) (htl : tabs.length ≤ 100000) (hn : n ≤ 100000) :
    Calls Try.prog 32 #[.pointer (some ⟨gs, 0, none⟩), .slice A n c] w (RepPost w U gs bt tabs l) := by
  obtain ⟨i0, hi, hz0, hz1, hz2⟩ := info_parts info_cell
  have H := Lib.hid h
  have HL := Lib.hid hl
  have HN := Lib.hid hl.len
  have HU := Lib.hid h.hU
  have HV := Lib.hid hV
  have HIN := Lib.hid hin
  have HSM := Lib.hid hsm
  have HTL0 := Lib.hid htl
  have HNG := Lib.hid (show ¬ U gs ∧ ¬ U bt ∧ gs < w.heap.size ∧ bt < w.heap.size from ⟨h.ng.1, h.ng.2.1, h.lt⟩)
  have HGB0 := Lib.hid (show gs ≠ bt from h.ng.2.2)
  have HVB := Lib.hid hVb
  clear h hl hV hin hsm htl hVb
  go_enter Try.func32, Try.ntmps32
  go_wp2
  go_loopw [5, 6] (fun nv i wr => ∃ (p q : Nat), i = .int .i64 p ∧ nv = .int .i64 q ∧ p ≤ n ∧ q ≤ p ∧ RepAt wr (fun k => U k ∨ (w.heap.size ≤ k ∧ k < wr.heap.size)) gs bt (repAll tabs (l.take p)) ∧ w.grownBy wr (some bt)) (fun _ i _ => n - (intOf i).toNat)
  case atStart => exact ⟨0, 0, rfl, rfl, Nat.zero_le _, Nat.le_refl _, H.out.same (fun k hk => .inl hk) (fun k hk => hk.elim (HU.out k) (·.2)) (by rintro (h | h); exact HNG.out.1 h; omega) (by rintro (h | h); exact HNG.out.2.1 h; omega), World.grownBy.refl w _⟩
  case round =>
    obtain ⟨wo, rfl⟩ : ∃ q : World, q = wr := ⟨_, rfl⟩
    obtain ⟨p0, q0, rfl, rfl, hp, hq0, hst, hgr⟩ := hrel
    have GR := Lib.hid hgr
    by_cases hlt : p0 < n
    · have hd : decide ((p0 : Int) < (n : Int)) = true := decide_eq_true (by omega)
      have hpi : (p0 : Int) < (n : Int) := by omega
      have hp00 : (0 : Int) ≤ (p0 : Int) := by omega
      obtain ⟨bo, oo, x, rfl, hbo, hx, hwx, k0, k1, k2, k3, k4⟩ := HL.out.oprT (w' := wo) hlt (fun q hq => World.cell?_of_block (GR.out.block _ (HV.out _ hq) (fun e => HVB.out (by injection e with e; rw [← e]; exact hq))))
      have hix := HIN.out x (List.mem_of_getElem? hx)
      obtain ⟨ol, ot, ok, og, ov⟩ := x
      dsimp only at k0 k1 k2 k3 k4 hix hwx
      obtain ⟨t, ht⟩ := Int.eq_ofNat_of_zero_le hix.1
      subst ht
      have HWX := Lib.hid hwx
      obtain ⟨tb, htb⟩ : ∃ tb, tb = repAll tabs (l.take p0) := ⟨_, rfl⟩
      have hlen : tb.length = tabs.length := by rw [htb, repAll_len]
      obtain ⟨U1, hU1⟩ : ∃ U1 : Nat → Prop, U1 = (fun k => U k ∨ (w.heap.size ≤ k ∧ k < wo.heap.size)) := ⟨_, rfl⟩
      rw [← htb, ← hU1] at hst
      have htt : t < tb.length := by rw [hlen]; have := hix.2; omega
      have hget : tb[t]? = some tb[t] := List.getElem?_eq_getElem htt
      obtain ⟨lt, hlt'⟩ : ∃ lt, lt = tb[t] := ⟨_, rfl⟩
      obtain ⟨N, hN⟩ : ∃ N, N = tb.length := ⟨_, rfl⟩
      have HSN := Lib.hid (show repAll tabs (l.take (p0 + 1)) = tb.set t (putC lt ⟨ol, (t : Int), ok, og, ov⟩) by
        rw [take_snoc hx, repAll_snoc, ← htb]
        unfold repPut
        dsimp only
        rw [Int.toNat_natCast, hget, Option.getD_some, ← hlt'])
      have HLT := Lib.hid (show lt.length ≤ 100000 by
        rw [hlt']
        have hmem : tb[t] ∈ repAll tabs (l.take p0) := by rw [← htb]; exact List.getElem_mem htt
        have h1 := repAll_small (l.take p0) tabs (100000 - n) (fun x hx => by have := HSM.out x hx; omega) _ hmem
        rw [List.length_take] at h1
        omega)
      have HSELF := Lib.hid (show tb.set t lt = tb by rw [hlt']; exact List.set_getElem_self htt)
      obtain ⟨OB, hOB⟩ : ∃ OB, OB = wo.heap.size := ⟨_, rfl⟩
      obtain ⟨wp, hwp⟩ : ∃ wp, wp = wo.alloc (.cells #[.int .i64 ol, .int .i64 (t : Int), .int .i64 ok, .bool og, .string ov] 71) := ⟨_, rfl⟩
      have hb1 : Below wo.heap.size wo wp := by rw [hwp]; exact (Below.refl _ _).alloc (Nat.le_refl _) _
      have BO := Lib.hid (show Blk wp OB [.int .i64 ol, .int .i64 (t : Int), .int .i64 ok, .bool og, .string ov] by rw [hwp, hOB]; exact Blk.new rfl rfl)
      have ST := Lib.hid (hst.below hb1)
      obtain ⟨vs, kb, kv, kall⟩ := ST.out.tab
      obtain ⟨At, mt, ct, hvt, slt, hmc, hcm⟩ := kall t _ hget
      rw [← hlt'] at slt
      have SLT := Lib.hid slt
      have HML := Lib.hid slt.len
      have hmt : mt ≤ 100000 := by rw [HML.out]; exact HLT.out
      have HMC := Lib.hid (And.intro hmc hcm)
      have HST0 := Lib.hid hst
      have HTT := Lib.hid htt
      have HU1 := Lib.hid hU1
      have HNN := Lib.hid hN
      have HNE := Lib.hid (show N = tabs.length by rw [hN, hlen])
      have HOB := Lib.hid hOB
      have HWP := Lib.hid hwp
      have HB1 := Lib.hid hb1
      have hnt : (t : Int) < (N : Int) := by omega
      have ht0 : (0 : Int) ≤ (t : Int) := by omega
      have hdt1 : decide ((t : Int) < 0) = false := decide_eq_false (by omega)
      have hdt2 : decide ((N : Int) ≤ (t : Int)) = false := decide_eq_false (by omega)
      have hdt3 : decide (N ≤ t) = false := decide_eq_false (by omega)
      have kg := ST.out.blk.1 0 _ rfl
      rw [← hN] at kg
      have kt := kb.1 t _ hvt
      obtain ⟨o0, o1, o2, o3, o4, oz⟩ := BO.out.c5
      clear hx hwx hix hst hgr htb hlen hU1 htt hget hlt' hN hOB hwp hb1 kb kv kall hvt slt hmc hcm hlt
      have HSUB := Lib.hid (show ∀ m : Nat, wo.heap.size ≤ m → ∀ k, U1 k → (U k ∨ (w.heap.size ≤ k ∧ k < m)) by rw [HU1.out]; exact fun m hm k hk => hk.imp id (fun e => ⟨e.1, Nat.lt_of_lt_of_le e.2 hm⟩))
      have HSLT := Lib.hid (show ∀ m : Nat, wo.heap.size ≤ m → ∀ k, (U k ∨ (w.heap.size ≤ k ∧ k < m)) → k < m from fun m hm k hk => hk.elim (fun e => by have := HU.out k e; have := GR.out.size; omega) (·.2))
      have HSN1 := Lib.hid (show ∀ m : Nat, ¬ (U gs ∨ (w.heap.size ≤ gs ∧ gs < m)) by rintro m (h | h); exact HNG.out.1 h; have := HNG.out.2.2.1; omega)
      have HSN2 := Lib.hid (show ∀ m : Nat, ¬ (U bt ∨ (w.heap.size ≤ bt ∧ bt < m)) by rintro m (h | h); exact HNG.out.2.1 h; have := HNG.out.2.2.2; omega)
      have HGRW := Lib.hid (show ∀ X, Below wp.heap.size wp X → w.grownBy X (some bt) from fun X hX => grown_trans GR.out (grown_of_below (HB1.out.trans (hX.mono HB1.out.size)) _))
      go_upto_region 6 with fail
      rw [← HWP.out, ← HOB.out]
      clear k0 k1 k2 k3 k4
      go_quiet (fail)
      go_upto_region 7 with fail
      go_quiet (fail)
      go_wp2_with fail
      go_loopw [9] (fun iv wr => ∃ p : Nat, iv = .int .i64 p ∧ p ≤ mt ∧ (∀ c ∈ lt.take p, c.key < ok) ∧ Below wp.heap.size wp wr) (fun iv _ => mt - (intOf iv).toNat)
      case atStart => exact ⟨0, rfl, Nat.zero_le _, fun c hc => by simp at hc, below_drewN (below_drewN (Below.refl _ _) _) _⟩
      case round =>
        obtain ⟨wi, rfl⟩ : ∃ q : World, q = wr := ⟨_, rfl⟩
        obtain ⟨p, rfl, hpm, hall, hbel⟩ := hrel
        have HALL := Lib.hid hall
        have BI := Lib.hid hbel
        have STI := Lib.hid (ST.out.below hbel)
        have SLI := Lib.hid (show IsSl cellRep wi U1 At mt lt from SLT.out.keep (fun q hq => hbel.cell (ST.out.hU _ hq)))
        have BOI := Lib.hid (BO.out.after hbel)
        have kgi := (hbel.cell (p := ⟨gs, 0, none⟩) ST.out.lt.1).trans kg
        have kti := (hbel.cell (p := ⟨bt, t, none⟩) ST.out.lt.2).trans kt
        have hpc : (p : Int) ≤ (ct : Int) := by have := HMC.out.1; omega
        have hp0 : (0 : Int) ≤ (p : Int) := by omega
        clear hall hbel kg kt o0 o1 o2 o3 o4 oz
        obtain ⟨o0, o1, o2, o3, o4, oz⟩ := BOI.out.c5
        by_cases hlt2 : p < mt
        · have hm1 : decide ((p : Int) < (mt : Int)) = true := decide_eq_true (by omega)
          have hm1n : decide (p < mt) = true := decide_eq_true hlt2
          have hpi2 : (p : Int) < (mt : Int) := by omega
          obtain ⟨bc, oc, x, rfl, hbc, hx, hwx, x0, x1, x2, x3⟩ := SLI.out.cellT (w' := wi) hlt2 (fun _ _ => rfl)
          have HX := Lib.hid hx
          obtain ⟨xk, xl, xg, xv⟩ := x
          dsimp only at x0 x1 x2 x3
          clear hx hwx hbc
          by_cases hk : xk < ok
          · have hk1 : decide (xk < ok) = true := decide_eq_true hk
            have HTK := Lib.hid (show ∀ c ∈ lt.take (p + 1), c.key < ok by
              intro c hc
              rw [take_snoc HX.out] at hc
              rcases List.mem_append.1 hc with hc | hc
              · exact HALL.out c hc
              · rw [List.mem_singleton.1 hc]; exact hk)
            clear hk
            go_wp2_with fail
            go_quiet (fail)
            go_wp2
            go_roundw
            case rel => exact ⟨p + 1, by go_num, by omega, HTK.out, below_drewN BI.out _⟩
            case measure => simp [intOf]; omega
          · have hk1 : decide (xk < ok) = false := decide_eq_false hk
            have HPUT := Lib.hid (putC_at lt ⟨ol, (t : Int), ok, og, ov⟩ p (by rw [← HML.out]; omega) HALL.out (fun c hc => by rw [HX.out] at hc; rw [← Option.some.inj hc]; exact hk))
            rw [HX.out] at HPUT
            by_cases he : xk = ok
            · have he1 : (xk == ok) = true := by simpa using he
              have HE := Lib.hid he
              by_cases hl : ol < xl
              · have hl1 : decide (ol < xl) = true := decide_eq_true hl
                have HP2 := Lib.hid (show putC lt ⟨ol, (t : Int), ok, og, ov⟩ = lt by rw [HPUT.out]; dsimp only; rw [if_pos HE.out, if_pos hl])
                clear hk he hl
                go_wp2_with fail
                go_quiet (fail)
                go_upto_region 11 with fail
                go_quiet (fail)
                go_upto_region 12 with fail
                go_quiet (fail)
                go_wp2
                go_roundw
                case rel => exact ⟨p0 + 1, q0, by go_num, rfl, by omega, by omega, by
                  rw [HSN.out, HP2.out, show tb.set t lt = tb from HSELF.out]
                  exact (STI.out.below (below_drewN (Below.refl _ _) _)).same (HSUB.out _ (by simpa using Nat.le_trans HB1.out.size BI.out.size)) (HSLT.out _ (by simpa using Nat.le_trans HB1.out.size BI.out.size)) (HSN1.out _) (HSN2.out _), HGRW.out _ (below_drewN BI.out _)⟩
                case measure => simp [intOf]; omega
              · have hl1 : decide (ol < xl) = false := decide_eq_false hl
                have HP2 := Lib.hid (show putC lt ⟨ol, (t : Int), ok, og, ov⟩ = lt.take p ++ [cellOf ⟨ol, (t : Int), ok, og, ov⟩] ++ lt.drop (p + 1) by rw [HPUT.out]; dsimp only; rw [if_pos HE.out, if_neg hl])
                have hp1m : (p : Int) + 1 ≤ (mt : Int) := by omega
                have hp10 : (0 : Int) ≤ (p : Int) + 1 := by omega
                clear hk he hl
                go_wp2_with fail
                go_quiet (fail)
                obtain ⟨n1q, rfl⟩ : ∃ q : Nat, q = nq := ⟨_, rfl⟩
                go_upto_region 11 with fail
                go_quiet (fail)
                obtain ⟨n2q, rfl⟩ : ∃ q : Nat, q = nq := ⟨_, rfl⟩
                go_upto_region 12 with fail
                go_quiet (fail)
                go_upto_region 13 with fail
                obtain ⟨wj, hwj⟩ : ∃ q, q = ((wi.drewN n1q).drewN n2q).drewN nq := ⟨_, rfl⟩
                have BJ := Lib.hid (show Below wp.heap.size wp wj by rw [hwj]; exact below_drewN (below_drewN (below_drewN BI.out _) _) _)
                have BOJ := Lib.hid (show Below wi.heap.size wi wj by rw [hwj]; exact below_drewN (below_drewN (below_drewN (Below.refl _ _) _) _) _)
                rw [← hwj]
                have HKGI := Lib.hid (And.intro kgi kti)
                clear hwj x0 x1 x2 x3 o0 o1 o2 o3 o4 oz kgi kti
                obtain ⟨o0, o1, o2, o3, o4, oz⟩ := (BOI.out.after BOJ.out).c5
                obtain ⟨XB, hXB⟩ : ∃ q, q = wj.heap.size := ⟨_, rfl⟩
                have HXB := Lib.hid hXB
                have SLJ := Lib.hid (show IsSl cellRep wj U1 _ mt lt from SLI.out.keep (fun q hq => BOJ.out.cell (STI.out.hU _ hq)))
                have STJ := Lib.hid (STI.out.below BOJ.out)
                have HOJ := Lib.hid (BOI.out.after BOJ.out)
                cases og
                case' true =>
                  go_upto_region 14 with fail
                  obtain ⟨wx, hwx2⟩ : ∃ q, q = wj.alloc (.cells #[.int .i64 ok, .int .i64 ol, .bool true, .string ov] 155) := ⟨_, rfl⟩
                  have BXX := Lib.hid (show Blk wx XB [.int .i64 ok, .int .i64 ol, .bool true, .string ov] by rw [hwx2, hXB]; exact Blk.new rfl rfl)
                  have BJX := Lib.hid (show Below wj.heap.size wj wx by rw [hwx2]; exact (Below.refl _ _).alloc (Nat.le_refl _) _)
                  rw [← hwx2, ← hXB]
                  clear hwx2 hXB o0 o1 o2 o3 o4 oz
                  obtain ⟨o0, o1, o2, o3, o4, oz⟩ := (HOJ.out.after BJX.out).c5
                  obtain ⟨y0, y1, y2, y3, yz⟩ := BXX.out.c4
                  go_upto_region 16 with fail
                  obtain ⟨wa, hwa⟩ : ∃ q, q = wx.setCell ⟨XB, 3, none⟩ (.string ⟨#[]⟩) := ⟨_, rfl⟩
                  obtain ⟨vv, hvv⟩ : ∃ q : ByteArray, q = ⟨#[]⟩ := ⟨_, rfl⟩
                  obtain ⟨og, hog⟩ : ∃ q : Bool, q = true := ⟨_, rfl⟩
                  have BXA := Lib.hid (show Blk wa XB [.int .i64 ok, .int .i64 ol, .bool og, .string vv] by rw [hwa, hog, hvv]; exact BXX.out.put (j := 3) (by simp) _ rfl)
                  have BJA := Lib.hid (show Below wj.heap.size wj wa by rw [hwa]; exact BJX.out.setCell (by show wj.heap.size ≤ XB; rw [HXB.out]; exact Nat.le_refl _) _)
                  have HXW := Lib.hid (show (⟨ok, ol, og, vv⟩ : Cell).wf from ⟨HWX.out.2.2.1, HWX.out.1, by rw [hvv]; exact Nat.zero_le _⟩)
                  have HCO := Lib.hid (show cellOf ⟨ol, (t : Int), ok, true, ov⟩ = ⟨ok, ol, og, vv⟩ by rw [hog, hvv]; rfl)
                  rw [← hwa]
                  clear hwa hvv hog y0 y1 y2 y3 yz o0 o1 o2 o3 o4 oz
                case' false =>
                  go_upto_region 14 with fail
                  obtain ⟨wx, hwx2⟩ : ∃ q, q = wj.alloc (.cells #[.int .i64 ok, .int .i64 ol, .bool false, .string ov] 155) := ⟨_, rfl⟩
                  have BXX := Lib.hid (show Blk wx XB [.int .i64 ok, .int .i64 ol, .bool false, .string ov] by rw [hwx2, hXB]; exact Blk.new rfl rfl)
                  have BJX := Lib.hid (show Below wj.heap.size wj wx by rw [hwx2]; exact (Below.refl _ _).alloc (Nat.le_refl _) _)
                  rw [← hwx2, ← hXB]
                  clear hwx2 hXB o0 o1 o2 o3 o4 oz
                  obtain ⟨o0, o1, o2, o3, o4, oz⟩ := (HOJ.out.after BJX.out).c5
                  obtain ⟨y0, y1, y2, y3, yz⟩ := BXX.out.c4
                  go_upto_region 16 with fail
                  obtain ⟨wa, hwa⟩ : ∃ q, q = wx := ⟨_, rfl⟩
                  obtain ⟨vv, hvv⟩ : ∃ q : ByteArray, q = ov := ⟨_, rfl⟩
                  obtain ⟨og, hog⟩ : ∃ q : Bool, q = false := ⟨_, rfl⟩
                  have BXA := Lib.hid (show Blk wa XB [.int .i64 ok, .int .i64 ol, .bool og, .string vv] by rw [hwa, hog, hvv]; exact BXX.out)
                  have BJA := Lib.hid (show Below wj.heap.size wj wa by rw [hwa]; exact BJX.out)
                  have HXW := Lib.hid (show (⟨ok, ol, og, vv⟩ : Cell).wf from ⟨HWX.out.2.2.1, HWX.out.1, by rw [hvv]; exact HWX.out.2.2.2⟩)
                  have HCO := Lib.hid (show cellOf ⟨ol, (t : Int), ok, false, ov⟩ = ⟨ok, ol, og, vv⟩ by rw [hog, hvv]; rfl)
                  rw [← hwa]
                  clear hwa hvv hog y0 y1 y2 y3 yz o0 o1 o2 o3 o4 oz
                all_goals
                  have STA := Lib.hid (STJ.out.below BJA.out)
                  have SLA := Lib.hid (show IsSl cellRep wa U1 _ mt lt from SLJ.out.keep (fun q hq => BJA.out.cell (STJ.out.hU _ hq)))
                  have BOA := Lib.hid (HOJ.out.after BJA.out)
                  have BD := Lib.hid (show Below wa.heap.size wa wa.drew from below_drewN (Below.refl _ _) 1)
                  have HSX := Lib.hid (show ∀ Y, Below wa.heap.size wa Y → (Y.cell? ⟨XB, 0, none⟩ = some (.int .i64 ok) ∧ Y.cell? ⟨XB, 1, none⟩ = some (.int .i64 ol) ∧ Y.cell? ⟨XB, 2, none⟩ = some (.bool og) ∧ Y.cell? ⟨XB, 3, none⟩ = some (.string vv)) from fun Y hY => by obtain ⟨z0, z1, z2, z3, _⟩ := (BXA.out.after hY).c4; exact ⟨z0, z1, z2, z3⟩)
                  have HSRC := Lib.hid (show ∀ Y, Below wa.heap.size wa Y → Src cellRep Y (fun _ => False) _ p (lt.take p) from fun Y hY => (SLA.out.cutTo (by omega)).srcK flat_cell (fun q hq => hY.cell (STA.out.hU _ hq)))
                  refine wp_region_held_drew (S := fun w' => w'.cell? ⟨XB, 0, none⟩ = some (.int .i64 ok) ∧ w'.cell? ⟨XB, 1, none⟩ = some (.int .i64 ol) ∧ w'.cell? ⟨XB, 2, none⟩ = some (.bool og) ∧ w'.cell? ⟨XB, 3, none⟩ = some (.string vv)) (by kernel_rfl) (HSX.out _ BD.out) (fun hHeld => ?_)
                  (refine wpAnyH_take (i := 1) (v := ?_) rfl (by kernel_rfl) (by kernel_rfl) (by kernel_rfl) (fun _ _ _ h => h) (Or.inl ⟨by rfl, ?_⟩) hHeld ?_; rotate_left 1; focus (intro w hSw; (try dsimp only at hSw); go_simp; try with_reducible rfl)); (try simp only [Act.put, List.getElem_toArray, List.getElem_cons_zero, List.getElem_cons_succ, List.setIfInBounds_toArray, List.set_cons_zero, List.set_cons_succ])
                  (refine wpAnyH_take (i := 2) (v := ?_) rfl (by kernel_rfl) (by kernel_rfl) (by kernel_rfl) (fun _ _ _ h => h) (Or.inl ⟨by rfl, ?_⟩) hHeld ?_; rotate_left 1; focus (intro w hSw; (try dsimp only at hSw); go_simp; try with_reducible rfl)); (try simp only [Act.put, List.getElem_toArray, List.getElem_cons_zero, List.getElem_cons_succ, List.setIfInBounds_toArray, List.set_cons_zero, List.set_cons_succ])
                  (refine wpAnyH_take (i := 3) (v := ?_) rfl (by kernel_rfl) (by kernel_rfl) (by kernel_rfl) (fun _ _ _ h => h) (Or.inl ⟨by rfl, ?_⟩) hHeld ?_; rotate_left 1; focus (intro w hSw; (try dsimp only at hSw); go_simp; try with_reducible rfl)); (try simp only [Act.put, List.getElem_toArray, List.getElem_cons_zero, List.getElem_cons_succ, List.setIfInBounds_toArray, List.set_cons_zero, List.set_cons_succ])
                  (refine wpAnyH_take (i := 5) (v := ?_) rfl (by kernel_rfl) (by kernel_rfl) (by kernel_rfl) (fun _ _ _ h => h) (Or.inl ⟨by rfl, ?_⟩) hHeld ?_; rotate_left 1; focus (intro w hSw; (try dsimp only at hSw); go_simp; try with_reducible rfl)); (try simp only [Act.put, List.getElem_toArray, List.getElem_cons_zero, List.getElem_cons_succ, List.setIfInBounds_toArray, List.set_cons_zero, List.set_cons_succ])
                  refine wpAnyH_ready (rs := [0, 6]) (by kernel_rfl) (by simp) ?_
                  refine AllReadyH.cons rfl (fun K hK => ?_) (AllReadyH.cons rfl (fun K hK => ?_) AllReadyH.nil)
                  go_simp
                  refine hK.out _ _ (HSX.out _ (BD.out.alloc (Nat.le_refl _) _)) (fun hHeld2 => ?_)
                  clear hK K hHeld; have hHeld := hHeld2; clear hHeld2; (try simp only [Act.put, List.getElem_toArray, List.getElem_cons_zero, List.getElem_cons_succ, List.setIfInBounds_toArray, List.set_cons_zero, List.set_cons_succ])
                  refine wpAnyH_ready (rs := [4, 6]) (by kernel_rfl) (by simp) ?_
                  refine AllReadyH.cons rfl (fun K hK => ?_) (AllReadyH.cons rfl (fun K hK => ?_) AllReadyH.nil)
                  refine step_append_Own (w := _) rfl (.tmp 97) (.tmp 100) 153 rfl wa.heap.size 155 i0 _ 40 Try.underlying153 hi hz0 hz1 hz2 rfl (R := cellRep) (S := fun _ => False) (l := []) (l' := lt.take p) (.slice _ 0 0) rfl (Own.nil _ _ _ (fun _ h => h.elim) _ _) _ p _ rfl (HSRC.out _ (BD.out.alloc (Nat.le_refl _) _)) (by simp [maxLen]; omega) (by simp; omega) (by omega) (BD.out.alloc (Nat.le_refl _) _).size ?_
                  intro v1 w1 own1 gr1 at1
                  have bel1 := (BD.out.alloc (Nat.le_refl _) _).grown gr1 (BD.out.alloc (Nat.le_refl _) _).size (by intro k hk; simp [rowOf] at hk)
                  simp only [List.nil_append] at own1
                  obtain ⟨A1, c1, rfl⟩ := own1.form
                  obtain ⟨q1, hq1⟩ : ∃ q1, q1 = (lt.take p).length := ⟨_, rfl⟩
                  rw [← hq1] at own1 ⊢
                  have HQ1 := Lib.hid hq1; have OW1 := Lib.hid own1; have B1 := Lib.hid bel1
                  clear gr1 at1 own1 bel1 hq1
                  have hq1p : q1 ≤ 100000 := by rw [HQ1.out, List.length_take]; omega
                  refine hK.out _ _ (HSX.out _ (B1.out)) (fun hHeld2 => ?_)
                  clear hK K hHeld; have hHeld := hHeld2; clear hHeld2; (try simp only [Act.put, List.getElem_toArray, List.getElem_cons_zero, List.getElem_cons_succ, List.setIfInBounds_toArray, List.set_cons_zero, List.set_cons_succ])
                  refine wpAnyH_ready (rs := [6]) (by kernel_rfl) (by simp) ?_
                  refine AllReadyH.cons rfl (fun K hK => ?_) AllReadyH.nil
                  go_simp
                  refine hK.out _ _ (HSX.out _ (B1.out.alloc B1.out.size _)) (fun hHeld2 => ?_)
                  clear hK K hHeld; have hHeld := hHeld2; clear hHeld2; (try simp only [Act.put, List.getElem_toArray, List.getElem_cons_zero, List.getElem_cons_succ, List.setIfInBounds_toArray, List.set_cons_zero, List.set_cons_succ])
                  refine wpAnyH_ready (rs := [7]) (by kernel_rfl) (by simp) ?_
                  refine AllReadyH.cons rfl (fun K hK => ?_) AllReadyH.nil
                  refine step_append_Own (w := _) rfl (.tmp 101) (.tmp 103) 153 rfl wa.heap.size 155 i0 _ 40 Try.underlying153 hi hz0 hz1 hz2 rfl (R := cellRep) (S := fun _ => False) (l := lt.take p) (l' := [(⟨ok, ol, og, vv⟩ : Cell)]) (.slice A1 q1 c1) rfl (OW1.out.alloc _) _ 1 1 rfl (Src.new (cs := [.int .i64 ok, .int .i64 ol, .bool og, .string vv]) ⟨rfl, HXW.out⟩) (by rw [← HQ1.out]; simp only [maxLen]; omega) (by rw [← HQ1.out]; omega) (by omega) (B1.out.alloc B1.out.size _).size ?_
                  intro v2 w2 own2 gr2 at2
                  have bel2 := (B1.out.alloc B1.out.size _).grown gr2 (B1.out.alloc B1.out.size _).size (fun k hk => OW1.out.row_ge hk)
                  obtain ⟨A2, c2, rfl⟩ := own2.form
                  obtain ⟨q2, hq2⟩ : ∃ q2, q2 = (lt.take p ++ [(⟨ok, ol, og, vv⟩ : Cell)]).length := ⟨_, rfl⟩
                  rw [← hq2] at own2 ⊢
                  have HQ2 := Lib.hid hq2; have OW2 := Lib.hid own2; have B2 := Lib.hid bel2
                  clear gr2 at2 own2 bel2 hq2
                  refine hK.out _ _ (HSX.out _ (B2.out)) (fun hHeld2 => ?_)
                  clear hK K hHeld; have hHeld := hHeld2; clear hHeld2; (try simp only [Act.put, List.getElem_toArray, List.getElem_cons_zero, List.getElem_cons_succ, List.setIfInBounds_toArray, List.set_cons_zero, List.set_cons_succ])
                  (refine wpAnyH_take (i := 8) (v := ?_) rfl (by kernel_rfl) (by kernel_rfl) (by kernel_rfl) (fun _ _ _ h => h) (Or.inl ⟨by rfl, ?_⟩) hHeld ?_; rotate_left 1; focus (intro w hSw; (try dsimp only at hSw); go_simp; try with_reducible rfl)); (try simp only [Act.put, List.getElem_toArray, List.getElem_cons_zero, List.getElem_cons_succ, List.setIfInBounds_toArray, List.set_cons_zero, List.set_cons_succ])
                  refine wpAnyH_done (by kernel_rfl) ?_ _
                  rotate_left 1
                  go_simp
                  refine hK.out _ _ (HSX.out _ ((BD.out.alloc (Nat.le_refl _) _).alloc (by simp) _)) (fun hHeld2 => ?_)
                  clear hK K hHeld; have hHeld := hHeld2; clear hHeld2; (try simp only [Act.put, List.getElem_toArray, List.getElem_cons_zero, List.getElem_cons_succ, List.setIfInBounds_toArray, List.set_cons_zero, List.set_cons_succ])
                  refine wpAnyH_ready (rs := [4]) (by kernel_rfl) (by simp) ?_
                  refine AllReadyH.cons rfl (fun K hK => ?_) AllReadyH.nil
                  refine step_append_Own (w := _) rfl (.tmp 97) (.tmp 100) 153 rfl wa.heap.size 155 i0 _ 40 Try.underlying153 hi hz0 hz1 hz2 rfl (R := cellRep) (S := fun _ => False) (l := []) (l' := lt.take p) (.slice _ 0 0) rfl (Own.nil _ _ _ (fun _ h => h.elim) _ _) _ p _ rfl (HSRC.out _ ((BD.out.alloc (Nat.le_refl _) _).alloc (by simp) _)) (by simp [maxLen]; omega) (by simp; omega) (by omega) ((BD.out.alloc (Nat.le_refl _) _).alloc (by simp) _).size ?_
                  intro v1 w1 own1 gr1 at1
                  have bel1 := ((BD.out.alloc (Nat.le_refl _) _).alloc (by simp) _).grown gr1 ((BD.out.alloc (Nat.le_refl _) _).alloc (by simp) _).size (by intro k hk; simp [rowOf] at hk)
                  have BK1 := Lib.hid ((show Blk (((wa.alloc (.cells #[] 155)).alloc (.cells #[.int .i64 ok, .int .i64 ol, .bool og, .string vv] 155)).drew) (wa.heap.size + 1) [.int .i64 ok, .int .i64 ol, .bool og, .string vv] from (Blk.new rfl (by simp)).drew).after (show Below (((wa.alloc (.cells #[] 155)).alloc (.cells #[.int .i64 ok, .int .i64 ol, .bool og, .string vv] 155)).drew).heap.size (((wa.alloc (.cells #[] 155)).alloc (.cells #[.int .i64 ok, .int .i64 ol, .bool og, .string vv] 155)).drew) w1 from ⟨gr1.os, gr1.tape, gr1.output, gr1.size, fun k hk => gr1.block k hk (by simp [rowOf])⟩))
                  simp only [List.nil_append] at own1
                  obtain ⟨A1, c1, rfl⟩ := own1.form
                  obtain ⟨q1, hq1⟩ : ∃ q1, q1 = (lt.take p).length := ⟨_, rfl⟩
                  rw [← hq1] at own1 ⊢
                  have HQ1 := Lib.hid hq1; have OW1 := Lib.hid own1; have B1 := Lib.hid bel1
                  clear gr1 at1 own1 bel1 hq1
                  have hq1p : q1 ≤ 100000 := by rw [HQ1.out, List.length_take]; omega
                  refine hK.out _ _ (HSX.out _ (B1.out)) (fun hHeld2 => ?_)
                  clear hK K hHeld; have hHeld := hHeld2; clear hHeld2; (try simp only [Act.put, List.getElem_toArray, List.getElem_cons_zero, List.getElem_cons_succ, List.setIfInBounds_toArray, List.set_cons_zero, List.set_cons_succ])
                  refine wpAnyH_ready (rs := [7]) (by kernel_rfl) (by simp) ?_
                  refine AllReadyH.cons rfl (fun K hK => ?_) AllReadyH.nil
                  refine step_append_Own (w := _) rfl (.tmp 101) (.tmp 103) 153 rfl wa.heap.size 155 i0 _ 40 Try.underlying153 hi hz0 hz1 hz2 rfl (R := cellRep) (S := fun _ => False) (l := lt.take p) (l' := [(⟨ok, ol, og, vv⟩ : Cell)]) (.slice A1 q1 c1) rfl (OW1.out) _ 1 1 rfl ((IsSl.oneC (R := cellRep) (a := (⟨ok, ol, og, vv⟩ : Cell)) (S := fun _ => True) BK1.out trivial ⟨rfl, HXW.out⟩).srcK flat_cell (fun _ _ => rfl)) (by rw [← HQ1.out]; simp only [maxLen]; omega) (by rw [← HQ1.out]; omega) (by omega) (B1.out).size ?_
                  intro v2 w2 own2 gr2 at2
                  have bel2 := (B1.out).grown gr2 (B1.out).size (fun k hk => OW1.out.row_ge hk)
                  obtain ⟨A2, c2, rfl⟩ := own2.form
                  obtain ⟨q2, hq2⟩ : ∃ q2, q2 = (lt.take p ++ [(⟨ok, ol, og, vv⟩ : Cell)]).length := ⟨_, rfl⟩
                  rw [← hq2] at own2 ⊢
                  have HQ2 := Lib.hid hq2; have OW2 := Lib.hid own2; have B2 := Lib.hid bel2
                  clear gr2 at2 own2 bel2 hq2
                  refine hK.out _ _ (HSX.out _ (B2.out)) (fun hHeld2 => ?_)
                  clear hK K hHeld; have hHeld := hHeld2; clear hHeld2; (try simp only [Act.put, List.getElem_toArray, List.getElem_cons_zero, List.getElem_cons_succ, List.setIfInBounds_toArray, List.set_cons_zero, List.set_cons_succ])
                  (refine wpAnyH_take (i := 8) (v := ?_) rfl (by kernel_rfl) (by kernel_rfl) (by kernel_rfl) (fun _ _ _ h => h) (Or.inl ⟨by rfl, ?_⟩) hHeld ?_; rotate_left 1; focus (intro w hSw; (try dsimp only at hSw); go_simp; try with_reducible rfl)); (try simp only [Act.put, List.getElem_toArray, List.getElem_cons_zero, List.getElem_cons_succ, List.setIfInBounds_toArray, List.set_cons_zero, List.set_cons_succ])
                  refine wpAnyH_done (by kernel_rfl) ?_ _
                  rotate_left 1
                  go_simp
                  refine hK.out _ _ (HSX.out _ (BD.out.alloc (Nat.le_refl _) _)) (fun hHeld2 => ?_)
                  clear hK K hHeld; have hHeld := hHeld2; clear hHeld2; (try simp only [Act.put, List.getElem_toArray, List.getElem_cons_zero, List.getElem_cons_succ, List.setIfInBounds_toArray, List.set_cons_zero, List.set_cons_succ])
                  refine wpAnyH_ready (rs := [0]) (by kernel_rfl) (by simp) ?_
                  refine AllReadyH.cons rfl (fun K hK => ?_) AllReadyH.nil
                  go_simp
                  refine hK.out _ _ (HSX.out _ ((BD.out.alloc (Nat.le_refl _) _).alloc (by simp) _)) (fun hHeld2 => ?_)
                  clear hK K hHeld; have hHeld := hHeld2; clear hHeld2; (try simp only [Act.put, List.getElem_toArray, List.getElem_cons_zero, List.getElem_cons_succ, List.setIfInBounds_toArray, List.set_cons_zero, List.set_cons_succ])
                  refine wpAnyH_ready (rs := [4]) (by kernel_rfl) (by simp) ?_
                  refine AllReadyH.cons rfl (fun K hK => ?_) AllReadyH.nil
                  refine step_append_Own (w := _) rfl (.tmp 97) (.tmp 100) 153 rfl wa.heap.size 155 i0 _ 40 Try.underlying153 hi hz0 hz1 hz2 rfl (R := cellRep) (S := fun _ => False) (l := []) (l' := lt.take p) (.slice _ 0 0) rfl (Own.nil _ _ _ (fun _ h => h.elim) _ _) _ p _ rfl (HSRC.out _ ((BD.out.alloc (Nat.le_refl _) _).alloc (by simp) _)) (by simp [maxLen]; omega) (by simp; omega) (by omega) ((BD.out.alloc (Nat.le_refl _) _).alloc (by simp) _).size ?_
                  intro v1 w1 own1 gr1 at1
                  have bel1 := ((BD.out.alloc (Nat.le_refl _) _).alloc (by simp) _).grown gr1 ((BD.out.alloc (Nat.le_refl _) _).alloc (by simp) _).size (by intro k hk; simp [rowOf] at hk)
                  have BK1 := Lib.hid ((show Blk (((wa.alloc (.cells #[.int .i64 ok, .int .i64 ol, .bool og, .string vv] 155)).alloc (.cells #[] 155)).drew) (wa.heap.size) [.int .i64 ok, .int .i64 ol, .bool og, .string vv] from ((Blk.new rfl rfl).alloc _).drew).after (show Below (((wa.alloc (.cells #[.int .i64 ok, .int .i64 ol, .bool og, .string vv] 155)).alloc (.cells #[] 155)).drew).heap.size (((wa.alloc (.cells #[.int .i64 ok, .int .i64 ol, .bool og, .string vv] 155)).alloc (.cells #[] 155)).drew) w1 from ⟨gr1.os, gr1.tape, gr1.output, gr1.size, fun k hk => gr1.block k hk (by simp [rowOf])⟩))
                  simp only [List.nil_append] at own1
                  obtain ⟨A1, c1, rfl⟩ := own1.form
                  obtain ⟨q1, hq1⟩ : ∃ q1, q1 = (lt.take p).length := ⟨_, rfl⟩
                  rw [← hq1] at own1 ⊢
                  have HQ1 := Lib.hid hq1; have OW1 := Lib.hid own1; have B1 := Lib.hid bel1
                  clear gr1 at1 own1 bel1 hq1
                  have hq1p : q1 ≤ 100000 := by rw [HQ1.out, List.length_take]; omega
                  refine hK.out _ _ (HSX.out _ (B1.out)) (fun hHeld2 => ?_)
                  clear hK K hHeld; have hHeld := hHeld2; clear hHeld2; (try simp only [Act.put, List.getElem_toArray, List.getElem_cons_zero, List.getElem_cons_succ, List.setIfInBounds_toArray, List.set_cons_zero, List.set_cons_succ])
                  refine wpAnyH_ready (rs := [7]) (by kernel_rfl) (by simp) ?_
                  refine AllReadyH.cons rfl (fun K hK => ?_) AllReadyH.nil
                  refine step_append_Own (w := _) rfl (.tmp 101) (.tmp 103) 153 rfl wa.heap.size 155 i0 _ 40 Try.underlying153 hi hz0 hz1 hz2 rfl (R := cellRep) (S := fun _ => False) (l := lt.take p) (l' := [(⟨ok, ol, og, vv⟩ : Cell)]) (.slice A1 q1 c1) rfl (OW1.out) _ 1 1 rfl ((IsSl.oneC (R := cellRep) (a := (⟨ok, ol, og, vv⟩ : Cell)) (S := fun _ => True) BK1.out trivial ⟨rfl, HXW.out⟩).srcK flat_cell (fun _ _ => rfl)) (by rw [← HQ1.out]; simp only [maxLen]; omega) (by rw [← HQ1.out]; omega) (by omega) (B1.out).size ?_
                  intro v2 w2 own2 gr2 at2
                  have bel2 := (B1.out).grown gr2 (B1.out).size (fun k hk => OW1.out.row_ge hk)
                  obtain ⟨A2, c2, rfl⟩ := own2.form
                  obtain ⟨q2, hq2⟩ : ∃ q2, q2 = (lt.take p ++ [(⟨ok, ol, og, vv⟩ : Cell)]).length := ⟨_, rfl⟩
                  rw [← hq2] at own2 ⊢
                  have HQ2 := Lib.hid hq2; have OW2 := Lib.hid own2; have B2 := Lib.hid bel2
                  clear gr2 at2 own2 bel2 hq2
                  refine hK.out _ _ (HSX.out _ (B2.out)) (fun hHeld2 => ?_)
                  clear hK K hHeld; have hHeld := hHeld2; clear hHeld2; (try simp only [Act.put, List.getElem_toArray, List.getElem_cons_zero, List.getElem_cons_succ, List.setIfInBounds_toArray, List.set_cons_zero, List.set_cons_succ])
                  (refine wpAnyH_take (i := 8) (v := ?_) rfl (by kernel_rfl) (by kernel_rfl) (by kernel_rfl) (fun _ _ _ h => h) (Or.inl ⟨by rfl, ?_⟩) hHeld ?_; rotate_left 1; focus (intro w hSw; (try dsimp only at hSw); go_simp; try with_reducible rfl)); (try simp only [Act.put, List.getElem_toArray, List.getElem_cons_zero, List.getElem_cons_succ, List.setIfInBounds_toArray, List.set_cons_zero, List.set_cons_succ])
                  refine wpAnyH_done (by kernel_rfl) ?_ _
                all_goals
                  have hw2 := B2.out.size
                  have hq2p : q2 ≤ 100001 := by rw [HQ2.out, List.length_append, List.length_take, List.length_singleton]; omega
                  have HLA := Lib.hid (show gs < wa.heap.size ∧ bt < wa.heap.size ∧ OB < wa.heap.size from ⟨STA.out.lt.1, STA.out.lt.2, BOA.out.lt⟩)
                  have kga := (BJA.out.cell (p := ⟨gs, 0, none⟩) STJ.out.lt.1).trans ((BOJ.out.cell (p := ⟨gs, 0, none⟩) STI.out.lt.1).trans HKGI.out.1)
                  have kta := (BJA.out.cell (p := ⟨bt, t, none⟩) STJ.out.lt.2).trans ((BOJ.out.cell (p := ⟨bt, t, none⟩) STI.out.lt.2).trans HKGI.out.2)
                  have HKA := Lib.hid (And.intro kga kta)
                  have HOA := Lib.hid BOA.out.c5.2.1
                  have HFA := Lib.hid (show wa.frozen? ⟨bt, t, none⟩ = false by obtain ⟨vs, kb, _⟩ := STA.out.tab; exact kb.2.1 t)
                  have HNE2 := Lib.hid (show bt ≠ gs ∧ bt ≠ OB from ⟨Ne.symm HGB0.out, fun e => by have h1 := ST.out.lt.2; have h2 := HOB.out; have h3 := HST0.out.lt.2; omega⟩)
                  clear kga kta
                  go_upto_region 19 with fail
                  refine wp_region_held_drew (S := fun w' => w'.cell? ⟨gs, 0, none⟩ = some (.slice (some ⟨bt, 0, none⟩) N N) ∧ w'.cell? ⟨OB, 1, none⟩ = some (.int .i64 (t : Int))) (by kernel_rfl) (⟨(B2.out.cell (p := ⟨gs, 0, none⟩) HLA.out.1).trans HKA.out.1, (B2.out.cell (p := ⟨OB, 1, none⟩) HLA.out.2.2).trans HOA.out⟩) (fun hHeld => ?_)
                  (refine wpAnyH_take (i := 0) (v := ?_) rfl (by kernel_rfl) (by kernel_rfl) (by kernel_rfl) (fun _ _ _ h => h) (Or.inl ⟨by rfl, ?_⟩) hHeld ?_; rotate_left 1; focus (intro w hSw; (try dsimp only at hSw); go_simp; try with_reducible rfl)); (try simp only [Act.put, List.getElem_toArray, List.getElem_cons_zero, List.getElem_cons_succ, List.setIfInBounds_toArray, List.set_cons_zero, List.set_cons_succ])
                  (refine wpAnyH_take (i := 1) (v := ?_) rfl (by kernel_rfl) (by kernel_rfl) (by kernel_rfl) (fun _ _ _ h => h) (Or.inl ⟨by rfl, ?_⟩) hHeld ?_; rotate_left 1; focus (intro w hSw; (try dsimp only at hSw); go_simp; try with_reducible rfl)); (try simp only [Act.put, List.getElem_toArray, List.getElem_cons_zero, List.getElem_cons_succ, List.setIfInBounds_toArray, List.set_cons_zero, List.set_cons_succ])
                  (refine wpAnyH_take (i := 2) (v := ?_) rfl (by kernel_rfl) (by kernel_rfl) (by kernel_rfl) (fun _ _ _ h => h) (Or.inl ⟨by rfl, ?_⟩) hHeld ?_; rotate_left 1; focus (intro w hSw; (try dsimp only at hSw); go_simp; try with_reducible rfl)); (try simp only [Act.put, List.getElem_toArray, List.getElem_cons_zero, List.getElem_cons_succ, List.setIfInBounds_toArray, List.set_cons_zero, List.set_cons_succ])
                  (refine wpAnyH_take (i := 3) (v := ?_) rfl (by kernel_rfl) (by kernel_rfl) (by kernel_rfl) (fun _ _ _ h => h) (Or.inl ⟨by rfl, ?_⟩) hHeld ?_; rotate_left 1; focus (intro w hSw; (try dsimp only at hSw); go_simp; try with_reducible rfl)); (try simp only [Act.put, List.getElem_toArray, List.getElem_cons_zero, List.getElem_cons_succ, List.setIfInBounds_toArray, List.set_cons_zero, List.set_cons_succ])
                  (refine wpAnyH_take (i := 4) (v := ?_) rfl (by kernel_rfl) (by kernel_rfl) (by kernel_rfl) (fun _ _ _ h => h) (Or.inl ⟨by rfl, ?_⟩) hHeld ?_; rotate_left 1; focus (intro w hSw; (try dsimp only at hSw); go_simp; try with_reducible rfl)); (try simp only [Act.put, List.getElem_toArray, List.getElem_cons_zero, List.getElem_cons_succ, List.setIfInBounds_toArray, List.set_cons_zero, List.set_cons_succ])
                  (refine wpAnyH_take (i := 5) (v := ?_) rfl (by kernel_rfl) (by kernel_rfl) (by kernel_rfl) (fun _ _ _ h => h) (Or.inl ⟨by rfl, ?_⟩) hHeld ?_; rotate_left 1; focus (intro w hSw; (try dsimp only at hSw); go_simp; try with_reducible rfl)); (try simp only [Act.put, List.getElem_toArray, List.getElem_cons_zero, List.getElem_cons_succ, List.setIfInBounds_toArray, List.set_cons_zero, List.set_cons_succ])
                  (refine wpAnyH_take (i := 6) (v := ?_) rfl (by kernel_rfl) (by kernel_rfl) (by kernel_rfl) (fun _ _ _ h => h) (Or.inl ⟨by rfl, ?_⟩) hHeld ?_; rotate_left 1; focus (intro w hSw; (try dsimp only at hSw); go_simp; try with_reducible rfl)); (try simp only [Act.put, List.getElem_toArray, List.getElem_cons_zero, List.getElem_cons_succ, List.setIfInBounds_toArray, List.set_cons_zero, List.set_cons_succ])
                  (refine wpAnyH_take (i := 7) (v := ?_) rfl (by kernel_rfl) (by kernel_rfl) (by kernel_rfl) (fun _ _ _ h => h) (Or.inl ⟨by rfl, ?_⟩) hHeld ?_; rotate_left 1; focus (intro w hSw; (try dsimp only at hSw); go_simp; try with_reducible rfl)); (try simp only [Act.put, List.getElem_toArray, List.getElem_cons_zero, List.getElem_cons_succ, List.setIfInBounds_toArray, List.set_cons_zero, List.set_cons_succ])
                  (refine wpAnyH_take (i := 8) (v := ?_) rfl (by kernel_rfl) (by kernel_rfl) (by kernel_rfl) (fun _ _ _ h => h) (Or.inl ⟨by rfl, ?_⟩) hHeld ?_; rotate_left 1; focus (intro w hSw; (try dsimp only at hSw); go_simp; try with_reducible rfl)); (try simp only [Act.put, List.getElem_toArray, List.getElem_cons_zero, List.getElem_cons_succ, List.setIfInBounds_toArray, List.set_cons_zero, List.set_cons_succ])
                  (refine wpAnyH_take (i := 9) (v := ?_) rfl (by kernel_rfl) (by kernel_rfl) (by kernel_rfl) (fun _ _ _ h => h) (Or.inl ⟨by rfl, ?_⟩) hHeld ?_; rotate_left 1; focus (intro w hSw; (try dsimp only at hSw); go_simp; try with_reducible rfl)); (try simp only [Act.put, List.getElem_toArray, List.getElem_cons_zero, List.getElem_cons_succ, List.setIfInBounds_toArray, List.set_cons_zero, List.set_cons_succ])
                  refine wpAnyH_ready (rs := [10]) (by kernel_rfl) (by simp) ?_
                  refine AllReadyH.cons rfl (fun K hK => ?_) AllReadyH.nil
                  refine step_append_Own (w := _) rfl (.tmp 114) (.tmp 117) 153 rfl wa.heap.size 155 i0 _ 40 Try.underlying153 hi hz0 hz1 hz2 rfl (R := cellRep) (S := fun _ => False) (l := lt.take p ++ [(⟨ok, ol, og, vv⟩ : Cell)]) (l' := lt.drop (p + 1)) (.slice A2 q2 c2) rfl OW2.out.drew _ (mt - (p + 1)) _ rfl (((SLA.out.from_ (lo := p + 1) (by omega) (A' := _) (fun hlt b o h => by injection h with h; injection h with h1 h2 h3; subst h1 h2; exact if_neg (by have := HMC.out.1; omega))).srcK flat_cell (fun q hq => B2.out.cell (STA.out.hU _ hq)))) (by rw [← HQ2.out]; simp only [maxLen]; omega) (by rw [← HQ2.out]; omega) (by omega) (show wa.heap.size ≤ w2.heap.size from B2.out.size) ?_
                  intro v3 w3 own3 gr3 at3
                  have bel3 := (below_drewN B2.out 1).grown gr3 B2.out.size (fun k hk => OW2.out.row_ge hk)
                  obtain ⟨A3, c3, rfl, hlc3, hcm3, sl3⟩ := own3.isSl (S' := fun k => U1 k ∨ (wa.heap.size ≤ k ∧ k < w3.heap.size)) (fun _ h => h.elim) (fun k h1 h2 => .inr ⟨h1, h2⟩)
                  obtain ⟨q3, hq3⟩ : ∃ q3, q3 = (lt.take p ++ [(⟨ok, ol, og, vv⟩ : Cell)] ++ lt.drop (p + 1)).length := ⟨_, rfl⟩
                  rw [← hq3] at sl3 hlc3 ⊢
                  have SL3 := Lib.hid sl3; have HC3 := Lib.hid (And.intro hlc3 hcm3); have B3 := Lib.hid bel3
                  have kBv : w3.cell? ⟨bt, t, none⟩ = some (.slice _ mt ct) := (B3.out.cell (p := ⟨bt, t, none⟩) HLA.out.2.1).trans HKA.out.2
                  have kBf : w3.frozen? ⟨bt, t, none⟩ = false := (World.frozen?_of_block (B3.out.block bt HLA.out.2.1)).trans HFA.out
                  have HS3 := Lib.hid (show w3.cell? ⟨gs, 0, none⟩ = some (.slice (some ⟨bt, 0, none⟩) N N) ∧ w3.cell? ⟨OB, 1, none⟩ = some (.int .i64 (t : Int)) from ⟨(B3.out.cell (p := ⟨gs, 0, none⟩) HLA.out.1).trans HKA.out.1, (B3.out.cell (p := ⟨OB, 1, none⟩) HLA.out.2.2).trans HOA.out⟩)
                  have HS4 := Lib.hid (show ∀ v : Value, (w3.setCell ⟨bt, t, none⟩ v).cell? ⟨gs, 0, none⟩ = some (.slice (some ⟨bt, 0, none⟩) N N) ∧ (w3.setCell ⟨bt, t, none⟩ v).cell? ⟨OB, 1, none⟩ = some (.int .i64 (t : Int)) from fun v => ⟨(World.cell?_setCell_far w3 _ _ v HNE2.out.1).trans HS3.out.1, (World.cell?_setCell_far w3 _ _ v HNE2.out.2).trans HS3.out.2⟩)
                  clear own3 gr3 at3 sl3 hlc3 hcm3 bel3 hq3
                  refine hK.out _ _ (HS3.out) (fun hHeld2 => ?_)
                  clear hK K hHeld; have hHeld := hHeld2; clear hHeld2; (try simp only [Act.put, List.getElem_toArray, List.getElem_cons_zero, List.getElem_cons_succ, List.setIfInBounds_toArray, List.set_cons_zero, List.set_cons_succ])
                  (refine wpAnyH_take (i := 11) (v := ?_) rfl (by kernel_rfl) (by kernel_rfl) (by kernel_rfl) (fun _ _ _ h => h) (Or.inl ⟨by rfl, ?_⟩) hHeld ?_; rotate_left 1; focus (intro w hSw; (try dsimp only at hSw); go_simp; try with_reducible rfl)); (try simp only [Act.put, List.getElem_toArray, List.getElem_cons_zero, List.getElem_cons_succ, List.setIfInBounds_toArray, List.set_cons_zero, List.set_cons_succ])
                  refine wpAnyH_ready (rs := [12]) (by kernel_rfl) (by simp) ?_
                  refine AllReadyH.cons rfl (fun K hK => ?_) AllReadyH.nil
                  go_simp
                  refine hK.out _ _ (HS4.out _) (fun hHeld2 => ?_)
                  clear hK K hHeld; have hHeld := hHeld2; clear hHeld2; (try simp only [Act.put, List.getElem_toArray, List.getElem_cons_zero, List.getElem_cons_succ, List.setIfInBounds_toArray, List.set_cons_zero, List.set_cons_succ])
                  refine wpAnyH_done (by kernel_rfl) ?_ _
                  go_wp2_with fail
                  have hsz3 : wo.heap.size ≤ (w3.setCell ⟨bt, t, none⟩ (.slice A3 q3 c3)).heap.size := by
                    have h1 := HB1.out.size
                    have h2 := BI.out.size
                    have h3 := BOJ.out.size
                    have h4 := BJA.out.size
                    have h5 := B3.out.size
                    simp
                    omega
                  have hwo : w.heap.size ≤ wa.heap.size := by
                    have h0 := GR.out.size
                    have h1 := HB1.out.size
                    have h2 := BI.out.size
                    have h3 := BOJ.out.size
                    have h4 := BJA.out.size
                    omega
                  have RF := Lib.hid ((STA.out.put (t := t) (l := lt.take p ++ [(⟨ok, ol, og, vv⟩ : Cell)] ++ lt.drop (p + 1)) B3.out HTT.out SL3.out HC3.out.1 HC3.out.2).same (U' := fun k => U k ∨ (w.heap.size ≤ k ∧ k < (w3.setCell ⟨bt, t, none⟩ (.slice A3 q3 c3)).heap.size)) (fun k hk => hk.elim (HSUB.out _ hsz3 k) (fun e => .inr ⟨Nat.le_trans hwo e.1, by simpa using e.2⟩)) (HSLT.out _ hsz3) (HSN1.out _) (HSN2.out _))
                  have GF := Lib.hid (grown_trans (HGRW.out w3 (BI.out.trans ((BOJ.out.trans ((BJA.out.trans (B3.out.mono BJA.out.size)).mono BOJ.out.size)).mono BI.out.size))) (grown_setB w3 ⟨bt, t, none⟩ (.slice A3 q3 c3)))
                  go_roundw
                  case rel => exact ⟨p0 + 1, q0 + 1, by go_num, by go_num, by omega, by omega, by rw [HSN.out, HP2.out, HCO.out]; exact RF.out, GF.out⟩
                  case measure => simp [intOf]; omega
            · have he1 : (xk == ok) = false := by simpa using he
              have HP2 := Lib.hid (show putC lt ⟨ol, (t : Int), ok, og, ov⟩ = lt.take p ++ [cellOf ⟨ol, (t : Int), ok, og, ov⟩] ++ lt.drop p by rw [HPUT.out]; dsimp only; rw [if_neg he])
              clear hk he
              go_wp2_with fail
              go_quiet (fail)
              obtain ⟨n1q, rfl⟩ : ∃ q : Nat, q = nq := ⟨_, rfl⟩
              go_upto_region 11 with fail
              go_quiet (fail)
              obtain ⟨n2q, rfl⟩ : ∃ q : Nat, q = nq := ⟨_, rfl⟩
              go_upto_region 12 with fail
              go_quiet (fail)
              go_upto_region 13 with fail
              obtain ⟨wj, hwj⟩ : ∃ q, q = ((wi.drewN n1q).drewN n2q).drewN nq := ⟨_, rfl⟩
              have BJ := Lib.hid (show Below wp.heap.size wp wj by rw [hwj]; exact below_drewN (below_drewN (below_drewN BI.out _) _) _)
              have BOJ := Lib.hid (show Below wi.heap.size wi wj by rw [hwj]; exact below_drewN (below_drewN (below_drewN (Below.refl _ _) _) _) _)
              rw [← hwj]
              have HKGI := Lib.hid (And.intro kgi kti)
              clear hwj x0 x1 x2 x3 o0 o1 o2 o3 o4 oz kgi kti
              obtain ⟨o0, o1, o2, o3, o4, oz⟩ := (BOI.out.after BOJ.out).c5
              obtain ⟨XB, hXB⟩ : ∃ q, q = wj.heap.size := ⟨_, rfl⟩
              have HXB := Lib.hid hXB
              have SLJ := Lib.hid (show IsSl cellRep wj U1 _ mt lt from SLI.out.keep (fun q hq => BOJ.out.cell (STI.out.hU _ hq)))
              have STJ := Lib.hid (STI.out.below BOJ.out)
              have HOJ := Lib.hid (BOI.out.after BOJ.out)
              cases og
              case' true =>
                go_upto_region 14 with fail
                obtain ⟨wx, hwx2⟩ : ∃ q, q = wj.alloc (.cells #[.int .i64 ok, .int .i64 ol, .bool true, .string ov] 155) := ⟨_, rfl⟩
                have BXX := Lib.hid (show Blk wx XB [.int .i64 ok, .int .i64 ol, .bool true, .string ov] by rw [hwx2, hXB]; exact Blk.new rfl rfl)
                have BJX := Lib.hid (show Below wj.heap.size wj wx by rw [hwx2]; exact (Below.refl _ _).alloc (Nat.le_refl _) _)
                rw [← hwx2, ← hXB]
                clear hwx2 hXB o0 o1 o2 o3 o4 oz
                obtain ⟨o0, o1, o2, o3, o4, oz⟩ := (HOJ.out.after BJX.out).c5
                obtain ⟨y0, y1, y2, y3, yz⟩ := BXX.out.c4
                go_upto_region 16 with fail
                obtain ⟨wa, hwa⟩ : ∃ q, q = wx.setCell ⟨XB, 3, none⟩ (.string ⟨#[]⟩) := ⟨_, rfl⟩
                obtain ⟨vv, hvv⟩ : ∃ q : ByteArray, q = ⟨#[]⟩ := ⟨_, rfl⟩
                obtain ⟨og, hog⟩ : ∃ q : Bool, q = true := ⟨_, rfl⟩
                have BXA := Lib.hid (show Blk wa XB [.int .i64 ok, .int .i64 ol, .bool og, .string vv] by rw [hwa, hog, hvv]; exact BXX.out.put (j := 3) (by simp) _ rfl)
                have BJA := Lib.hid (show Below wj.heap.size wj wa by rw [hwa]; exact BJX.out.setCell (by show wj.heap.size ≤ XB; rw [HXB.out]; exact Nat.le_refl _) _)
                have HXW := Lib.hid (show (⟨ok, ol, og, vv⟩ : Cell).wf from ⟨HWX.out.2.2.1, HWX.out.1, by rw [hvv]; exact Nat.zero_le _⟩)
                have HCO := Lib.hid (show cellOf ⟨ol, (t : Int), ok, true, ov⟩ = ⟨ok, ol, og, vv⟩ by rw [hog, hvv]; rfl)
                rw [← hwa]
                clear hwa hvv hog y0 y1 y2 y3 yz o0 o1 o2 o3 o4 oz
              case' false =>
                go_upto_region 14 with fail
                obtain ⟨wx, hwx2⟩ : ∃ q, q = wj.alloc (.cells #[.int .i64 ok, .int .i64 ol, .bool false, .string ov] 155) := ⟨_, rfl⟩
                have BXX := Lib.hid (show Blk wx XB [.int .i64 ok, .int .i64 ol, .bool false, .string ov] by rw [hwx2, hXB]; exact Blk.new rfl rfl)
                have BJX := Lib.hid (show Below wj.heap.size wj wx by rw [hwx2]; exact (Below.refl _ _).alloc (Nat.le_refl _) _)
                rw [← hwx2, ← hXB]
                clear hwx2 hXB o0 o1 o2 o3 o4 oz
                obtain ⟨o0, o1, o2, o3, o4, oz⟩ := (HOJ.out.after BJX.out).c5
                obtain ⟨y0, y1, y2, y3, yz⟩ := BXX.out.c4
                go_upto_region 16 with fail
                obtain ⟨wa, hwa⟩ : ∃ q, q = wx := ⟨_, rfl⟩
                obtain ⟨vv, hvv⟩ : ∃ q : ByteArray, q = ov := ⟨_, rfl⟩
                obtain ⟨og, hog⟩ : ∃ q : Bool, q = false := ⟨_, rfl⟩
                have BXA := Lib.hid (show Blk wa XB [.int .i64 ok, .int .i64 ol, .bool og, .string vv] by rw [hwa, hog, hvv]; exact BXX.out)
                have BJA := Lib.hid (show Below wj.heap.size wj wa by rw [hwa]; exact BJX.out)
                have HXW := Lib.hid (show (⟨ok, ol, og, vv⟩ : Cell).wf from ⟨HWX.out.2.2.1, HWX.out.1, by rw [hvv]; exact HWX.out.2.2.2⟩)
                have HCO := Lib.hid (show cellOf ⟨ol, (t : Int), ok, false, ov⟩ = ⟨ok, ol, og, vv⟩ by rw [hog, hvv]; rfl)
                rw [← hwa]
                clear hwa hvv hog y0 y1 y2 y3 yz o0 o1 o2 o3 o4 oz
              all_goals
                have STA := Lib.hid (STJ.out.below BJA.out)
                have SLA := Lib.hid (show IsSl cellRep wa U1 _ mt lt from SLJ.out.keep (fun q hq => BJA.out.cell (STJ.out.hU _ hq)))
                have BOA := Lib.hid (HOJ.out.after BJA.out)
                have BD := Lib.hid (show Below wa.heap.size wa wa.drew from below_drewN (Below.refl _ _) 1)
                have HSX := Lib.hid (show ∀ Y, Below wa.heap.size wa Y → (Y.cell? ⟨XB, 0, none⟩ = some (.int .i64 ok) ∧ Y.cell? ⟨XB, 1, none⟩ = some (.int .i64 ol) ∧ Y.cell? ⟨XB, 2, none⟩ = some (.bool og) ∧ Y.cell? ⟨XB, 3, none⟩ = some (.string vv)) from fun Y hY => by obtain ⟨z0, z1, z2, z3, _⟩ := (BXA.out.after hY).c4; exact ⟨z0, z1, z2, z3⟩)
                have HSRC := Lib.hid (show ∀ Y, Below wa.heap.size wa Y → Src cellRep Y (fun _ => False) _ p (lt.take p) from fun Y hY => (SLA.out.cutTo (by omega)).srcK flat_cell (fun q hq => hY.cell (STA.out.hU _ hq)))
                refine wp_region_held_drew (S := fun w' => w'.cell? ⟨XB, 0, none⟩ = some (.int .i64 ok) ∧ w'.cell? ⟨XB, 1, none⟩ = some (.int .i64 ol) ∧ w'.cell? ⟨XB, 2, none⟩ = some (.bool og) ∧ w'.cell? ⟨XB, 3, none⟩ = some (.string vv)) (by kernel_rfl) (HSX.out _ BD.out) (fun hHeld => ?_)
                (refine wpAnyH_take (i := 1) (v := ?_) rfl (by kernel_rfl) (by kernel_rfl) (by kernel_rfl) (fun _ _ _ h => h) (Or.inl ⟨by rfl, ?_⟩) hHeld ?_; rotate_left 1; focus (intro w hSw; (try dsimp only at hSw); go_simp; try with_reducible rfl)); (try simp only [Act.put, List.getElem_toArray, List.getElem_cons_zero, List.getElem_cons_succ, List.setIfInBounds_toArray, List.set_cons_zero, List.set_cons_succ])
                (refine wpAnyH_take (i := 2) (v := ?_) rfl (by kernel_rfl) (by kernel_rfl) (by kernel_rfl) (fun _ _ _ h => h) (Or.inl ⟨by rfl, ?_⟩) hHeld ?_; rotate_left 1; focus (intro w hSw; (try dsimp only at hSw); go_simp; try with_reducible rfl)); (try simp only [Act.put, List.getElem_toArray, List.getElem_cons_zero, List.getElem_cons_succ, List.setIfInBounds_toArray, List.set_cons_zero, List.set_cons_succ])
                (refine wpAnyH_take (i := 3) (v := ?_) rfl (by kernel_rfl) (by kernel_rfl) (by kernel_rfl) (fun _ _ _ h => h) (Or.inl ⟨by rfl, ?_⟩) hHeld ?_; rotate_left 1; focus (intro w hSw; (try dsimp only at hSw); go_simp; try with_reducible rfl)); (try simp only [Act.put, List.getElem_toArray, List.getElem_cons_zero, List.getElem_cons_succ, List.setIfInBounds_toArray, List.set_cons_zero, List.set_cons_succ])
                (refine wpAnyH_take (i := 5) (v := ?_) rfl (by kernel_rfl) (by kernel_rfl) (by kernel_rfl) (fun _ _ _ h => h) (Or.inl ⟨by rfl, ?_⟩) hHeld ?_; rotate_left 1; focus (intro w hSw; (try dsimp only at hSw); go_simp; try with_reducible rfl)); (try simp only [Act.put, List.getElem_toArray, List.getElem_cons_zero, List.getElem_cons_succ, List.setIfInBounds_toArray, List.set_cons_zero, List.set_cons_succ])
                refine wpAnyH_ready (rs := [0, 6]) (by kernel_rfl) (by simp) ?_
                refine AllReadyH.cons rfl (fun K hK => ?_) (AllReadyH.cons rfl (fun K hK => ?_) AllReadyH.nil)
                go_simp
                refine hK.out _ _ (HSX.out _ (BD.out.alloc (Nat.le_refl _) _)) (fun hHeld2 => ?_)
                clear hK K hHeld; have hHeld := hHeld2; clear hHeld2; (try simp only [Act.put, List.getElem_toArray, List.getElem_cons_zero, List.getElem_cons_succ, List.setIfInBounds_toArray, List.set_cons_zero, List.set_cons_succ])
                refine wpAnyH_ready (rs := [4, 6]) (by kernel_rfl) (by simp) ?_
                refine AllReadyH.cons rfl (fun K hK => ?_) (AllReadyH.cons rfl (fun K hK => ?_) AllReadyH.nil)
                refine step_append_Own (w := _) rfl (.tmp 97) (.tmp 100) 153 rfl wa.heap.size 155 i0 _ 40 Try.underlying153 hi hz0 hz1 hz2 rfl (R := cellRep) (S := fun _ => False) (l := []) (l' := lt.take p) (.slice _ 0 0) rfl (Own.nil _ _ _ (fun _ h => h.elim) _ _) _ p _ rfl (HSRC.out _ (BD.out.alloc (Nat.le_refl _) _)) (by simp [maxLen]; omega) (by simp; omega) (by omega) (BD.out.alloc (Nat.le_refl _) _).size ?_
                intro v1 w1 own1 gr1 at1
                have bel1 := (BD.out.alloc (Nat.le_refl _) _).grown gr1 (BD.out.alloc (Nat.le_refl _) _).size (by intro k hk; simp [rowOf] at hk)
                simp only [List.nil_append] at own1
                obtain ⟨A1, c1, rfl⟩ := own1.form
                obtain ⟨q1, hq1⟩ : ∃ q1, q1 = (lt.take p).length := ⟨_, rfl⟩
                rw [← hq1] at own1 ⊢
                have HQ1 := Lib.hid hq1; have OW1 := Lib.hid own1; have B1 := Lib.hid bel1
                clear gr1 at1 own1 bel1 hq1
                have hq1p : q1 ≤ 100000 := by rw [HQ1.out, List.length_take]; omega
                refine hK.out _ _ (HSX.out _ (B1.out)) (fun hHeld2 => ?_)
                clear hK K hHeld; have hHeld := hHeld2; clear hHeld2; (try simp only [Act.put, List.getElem_toArray, List.getElem_cons_zero, List.getElem_cons_succ, List.setIfInBounds_toArray, List.set_cons_zero, List.set_cons_succ])
                refine wpAnyH_ready (rs := [6]) (by kernel_rfl) (by simp) ?_
                refine AllReadyH.cons rfl (fun K hK => ?_) AllReadyH.nil
                go_simp
                refine hK.out _ _ (HSX.out _ (B1.out.alloc B1.out.size _)) (fun hHeld2 => ?_)
                clear hK K hHeld; have hHeld := hHeld2; clear hHeld2; (try simp only [Act.put, List.getElem_toArray, List.getElem_cons_zero, List.getElem_cons_succ, List.setIfInBounds_toArray, List.set_cons_zero, List.set_cons_succ])
                refine wpAnyH_ready (rs := [7]) (by kernel_rfl) (by simp) ?_
                refine AllReadyH.cons rfl (fun K hK => ?_) AllReadyH.nil
                refine step_append_Own (w := _) rfl (.tmp 101) (.tmp 103) 153 rfl wa.heap.size 155 i0 _ 40 Try.underlying153 hi hz0 hz1 hz2 rfl (R := cellRep) (S := fun _ => False) (l := lt.take p) (l' := [(⟨ok, ol, og, vv⟩ : Cell)]) (.slice A1 q1 c1) rfl (OW1.out.alloc _) _ 1 1 rfl (Src.new (cs := [.int .i64 ok, .int .i64 ol, .bool og, .string vv]) ⟨rfl, HXW.out⟩) (by rw [← HQ1.out]; simp only [maxLen]; omega) (by rw [← HQ1.out]; omega) (by omega) (B1.out.alloc B1.out.size _).size ?_
                intro v2 w2 own2 gr2 at2
                have bel2 := (B1.out.alloc B1.out.size _).grown gr2 (B1.out.alloc B1.out.size _).size (fun k hk => OW1.out.row_ge hk)
                obtain ⟨A2, c2, rfl⟩ := own2.form
                obtain ⟨q2, hq2⟩ : ∃ q2, q2 = (lt.take p ++ [(⟨ok, ol, og, vv⟩ : Cell)]).length := ⟨_, rfl⟩
                rw [← hq2] at own2 ⊢
                have HQ2 := Lib.hid hq2; have OW2 := Lib.hid own2; have B2 := Lib.hid bel2
                clear gr2 at2 own2 bel2 hq2
                refine hK.out _ _ (HSX.out _ (B2.out)) (fun hHeld2 => ?_)
                clear hK K hHeld; have hHeld := hHeld2; clear hHeld2; (try simp only [Act.put, List.getElem_toArray, List.getElem_cons_zero, List.getElem_cons_succ, List.setIfInBounds_toArray, List.set_cons_zero, List.set_cons_succ])
                (refine wpAnyH_take (i := 8) (v := ?_) rfl (by kernel_rfl) (by kernel_rfl) (by kernel_rfl) (fun _ _ _ h => h) (Or.inl ⟨by rfl, ?_⟩) hHeld ?_; rotate_left 1; focus (intro w hSw; (try dsimp only at hSw); go_simp; try with_reducible rfl)); (try simp only [Act.put, List.getElem_toArray, List.getElem_cons_zero, List.getElem_cons_succ, List.setIfInBounds_toArray, List.set_cons_zero, List.set_cons_succ])
                refine wpAnyH_done (by kernel_rfl) ?_ _
                rotate_left 1
                go_simp
                refine hK.out _ _ (HSX.out _ ((BD.out.alloc (Nat.le_refl _) _).alloc (by simp) _)) (fun hHeld2 => ?_)
                clear hK K hHeld; have hHeld := hHeld2; clear hHeld2; (try simp only [Act.put, List.getElem_toArray, List.getElem_cons_zero, List.getElem_cons_succ, List.setIfInBounds_toArray, List.set_cons_zero, List.set_cons_succ])
                refine wpAnyH_ready (rs := [4]) (by kernel_rfl) (by simp) ?_
                refine AllReadyH.cons rfl (fun K hK => ?_) AllReadyH.nil
                refine step_append_Own (w := _) rfl (.tmp 97) (.tmp 100) 153 rfl wa.heap.size 155 i0 _ 40 Try.underlying153 hi hz0 hz1 hz2 rfl (R := cellRep) (S := fun _ => False) (l := []) (l' := lt.take p) (.slice _ 0 0) rfl (Own.nil _ _ _ (fun _ h => h.elim) _ _) _ p _ rfl (HSRC.out _ ((BD.out.alloc (Nat.le_refl _) _).alloc (by simp) _)) (by simp [maxLen]; omega) (by simp; omega) (by omega) ((BD.out.alloc (Nat.le_refl _) _).alloc (by simp) _).size ?_
                intro v1 w1 own1 gr1 at1
                have bel1 := ((BD.out.alloc (Nat.le_refl _) _).alloc (by simp) _).grown gr1 ((BD.out.alloc (Nat.le_refl _) _).alloc (by simp) _).size (by intro k hk; simp [rowOf] at hk)
                have BK1 := Lib.hid ((show Blk (((wa.alloc (.cells #[] 155)).alloc (.cells #[.int .i64 ok, .int .i64 ol, .bool og, .string vv] 155)).drew) (wa.heap.size + 1) [.int .i64 ok, .int .i64 ol, .bool og, .string vv] from (Blk.new rfl (by simp)).drew).after (show Below (((wa.alloc (.cells #[] 155)).alloc (.cells #[.int .i64 ok, .int .i64 ol, .bool og, .string vv] 155)).drew).heap.size (((wa.alloc (.cells #[] 155)).alloc (.cells #[.int .i64 ok, .int .i64 ol, .bool og, .string vv] 155)).drew) w1 from ⟨gr1.os, gr1.tape, gr1.output, gr1.size, fun k hk => gr1.block k hk (by simp [rowOf])⟩))
                simp only [List.nil_append] at own1
                obtain ⟨A1, c1, rfl⟩ := own1.form
                obtain ⟨q1, hq1⟩ : ∃ q1, q1 = (lt.take p).length := ⟨_, rfl⟩
                rw [← hq1] at own1 ⊢
                have HQ1 := Lib.hid hq1; have OW1 := Lib.hid own1; have B1 := Lib.hid bel1
                clear gr1 at1 own1 bel1 hq1
                have hq1p : q1 ≤ 100000 := by rw [HQ1.out, List.length_take]; omega
                refine hK.out _ _ (HSX.out _ (B1.out)) (fun hHeld2 => ?_)
                clear hK K hHeld; have hHeld := hHeld2; clear hHeld2; (try simp only [Act.put, List.getElem_toArray, List.getElem_cons_zero, List.getElem_cons_succ, List.setIfInBounds_toArray, List.set_cons_zero, List.set_cons_succ])
                refine wpAnyH_ready (rs := [7]) (by kernel_rfl) (by simp) ?_
                refine AllReadyH.cons rfl (fun K hK => ?_) AllReadyH.nil
                refine step_append_Own (w := _) rfl (.tmp 101) (.tmp 103) 153 rfl wa.heap.size 155 i0 _ 40 Try.underlying153 hi hz0 hz1 hz2 rfl (R := cellRep) (S := fun _ => False) (l := lt.take p) (l' := [(⟨ok, ol, og, vv⟩ : Cell)]) (.slice A1 q1 c1) rfl (OW1.out) _ 1 1 rfl ((IsSl.oneC (R := cellRep) (a := (⟨ok, ol, og, vv⟩ : Cell)) (S := fun _ => True) BK1.out trivial ⟨rfl, HXW.out⟩).srcK flat_cell (fun _ _ => rfl)) (by rw [← HQ1.out]; simp only [maxLen]; omega) (by rw [← HQ1.out]; omega) (by omega) (B1.out).size ?_
                intro v2 w2 own2 gr2 at2
                have bel2 := (B1.out).grown gr2 (B1.out).size (fun k hk => OW1.out.row_ge hk)
                obtain ⟨A2, c2, rfl⟩ := own2.form
                obtain ⟨q2, hq2⟩ : ∃ q2, q2 = (lt.take p ++ [(⟨ok, ol, og, vv⟩ : Cell)]).length := ⟨_, rfl⟩
                rw [← hq2] at own2 ⊢
                have HQ2 := Lib.hid hq2; have OW2 := Lib.hid own2; have B2 := Lib.hid bel2
                clear gr2 at2 own2 bel2 hq2
                refine hK.out _ _ (HSX.out _ (B2.out)) (fun hHeld2 => ?_)
                clear hK K hHeld; have hHeld := hHeld2; clear hHeld2; (try simp only [Act.put, List.getElem_toArray, List.getElem_cons_zero, List.getElem_cons_succ, List.setIfInBounds_toArray, List.set_cons_zero, List.set_cons_succ])
                (refine wpAnyH_take (i := 8) (v := ?_) rfl (by kernel_rfl) (by kernel_rfl) (by kernel_rfl) (fun _ _ _ h => h) (Or.inl ⟨by rfl, ?_⟩) hHeld ?_; rotate_left 1; focus (intro w hSw; (try dsimp only at hSw); go_simp; try with_reducible rfl)); (try simp only [Act.put, List.getElem_toArray, List.getElem_cons_zero, List.getElem_cons_succ, List.setIfInBounds_toArray, List.set_cons_zero, List.set_cons_succ])
                refine wpAnyH_done (by kernel_rfl) ?_ _
                rotate_left 1
                go_simp
                refine hK.out _ _ (HSX.out _ (BD.out.alloc (Nat.le_refl _) _)) (fun hHeld2 => ?_)
                clear hK K hHeld; have hHeld := hHeld2; clear hHeld2; (try simp only [Act.put, List.getElem_toArray, List.getElem_cons_zero, List.getElem_cons_succ, List.setIfInBounds_toArray, List.set_cons_zero, List.set_cons_succ])
                refine wpAnyH_ready (rs := [0]) (by kernel_rfl) (by simp) ?_
                refine AllReadyH.cons rfl (fun K hK => ?_) AllReadyH.nil
                go_simp
                refine hK.out _ _ (HSX.out _ ((BD.out.alloc (Nat.le_refl _) _).alloc (by simp) _)) (fun hHeld2 => ?_)
                clear hK K hHeld; have hHeld := hHeld2; clear hHeld2; (try simp only [Act.put, List.getElem_toArray, List.getElem_cons_zero, List.getElem_cons_succ, List.setIfInBounds_toArray, List.set_cons_zero, List.set_cons_succ])
                refine wpAnyH_ready (rs := [4]) (by kernel_rfl) (by simp) ?_
                refine AllReadyH.cons rfl (fun K hK => ?_) AllReadyH.nil
                refine step_append_Own (w := _) rfl (.tmp 97) (.tmp 100) 153 rfl wa.heap.size 155 i0 _ 40 Try.underlying153 hi hz0 hz1 hz2 rfl (R := cellRep) (S := fun _ => False) (l := []) (l' := lt.take p) (.slice _ 0 0) rfl (Own.nil _ _ _ (fun _ h => h.elim) _ _) _ p _ rfl (HSRC.out _ ((BD.out.alloc (Nat.le_refl _) _).alloc (by simp) _)) (by simp [maxLen]; omega) (by simp; omega) (by omega) ((BD.out.alloc (Nat.le_refl _) _).alloc (by simp) _).size ?_
                intro v1 w1 own1 gr1 at1
                have bel1 := ((BD.out.alloc (Nat.le_refl _) _).alloc (by simp) _).grown gr1 ((BD.out.alloc (Nat.le_refl _) _).alloc (by simp) _).size (by intro k hk; simp [rowOf] at hk)
                have BK1 := Lib.hid ((show Blk (((wa.alloc (.cells #[.int .i64 ok, .int .i64 ol, .bool og, .string vv] 155)).alloc (.cells #[] 155)).drew) (wa.heap.size) [.int .i64 ok, .int .i64 ol, .bool og, .string vv] from ((Blk.new rfl rfl).alloc _).drew).after (show Below (((wa.alloc (.cells #[.int .i64 ok, .int .i64 ol, .bool og, .string vv] 155)).alloc (.cells #[] 155)).drew).heap.size (((wa.alloc (.cells #[.int .i64 ok, .int .i64 ol, .bool og, .string vv] 155)).alloc (.cells #[] 155)).drew) w1 from ⟨gr1.os, gr1.tape, gr1.output, gr1.size, fun k hk => gr1.block k hk (by simp [rowOf])⟩))
                simp only [List.nil_append] at own1
                obtain ⟨A1, c1, rfl⟩ := own1.form
                obtain ⟨q1, hq1⟩ : ∃ q1, q1 = (lt.take p).length := ⟨_, rfl⟩
                rw [← hq1] at own1 ⊢
                have HQ1 := Lib.hid hq1; have OW1 := Lib.hid own1; have B1 := Lib.hid bel1
                clear gr1 at1 own1 bel1 hq1
                have hq1p : q1 ≤ 100000 := by rw [HQ1.out, List.length_take]; omega
                refine hK.out _ _ (HSX.out _ (B1.out)) (fun hHeld2 => ?_)
                clear hK K hHeld; have hHeld := hHeld2; clear hHeld2; (try simp only [Act.put, List.getElem_toArray, List.getElem_cons_zero, List.getElem_cons_succ, List.setIfInBounds_toArray, List.set_cons_zero, List.set_cons_succ])
                refine wpAnyH_ready (rs := [7]) (by kernel_rfl) (by simp) ?_
                refine AllReadyH.cons rfl (fun K hK => ?_) AllReadyH.nil
                refine step_append_Own (w := _) rfl (.tmp 101) (.tmp 103) 153 rfl wa.heap.size 155 i0 _ 40 Try.underlying153 hi hz0 hz1 hz2 rfl (R := cellRep) (S := fun _ => False) (l := lt.take p) (l' := [(⟨ok, ol, og, vv⟩ : Cell)]) (.slice A1 q1 c1) rfl (OW1.out) _ 1 1 rfl ((IsSl.oneC (R := cellRep) (a := (⟨ok, ol, og, vv⟩ : Cell)) (S := fun _ => True) BK1.out trivial ⟨rfl, HXW.out⟩).srcK flat_cell (fun _ _ => rfl)) (by rw [← HQ1.out]; simp only [maxLen]; omega) (by rw [← HQ1.out]; omega) (by omega) (B1.out).size ?_
                intro v2 w2 own2 gr2 at2
                have bel2 := (B1.out).grown gr2 (B1.out).size (fun k hk => OW1.out.row_ge hk)
                obtain ⟨A2, c2, rfl⟩ := own2.form
                obtain ⟨q2, hq2⟩ : ∃ q2, q2 = (lt.take p ++ [(⟨ok, ol, og, vv⟩ : Cell)]).length := ⟨_, rfl⟩
                rw [← hq2] at own2 ⊢
                have HQ2 := Lib.hid hq2; have OW2 := Lib.hid own2; have B2 := Lib.hid bel2
                clear gr2 at2 own2 bel2 hq2
                refine hK.out _ _ (HSX.out _ (B2.out)) (fun hHeld2 => ?_)
                clear hK K hHeld; have hHeld := hHeld2; clear hHeld2; (try simp only [Act.put, List.getElem_toArray, List.getElem_cons_zero, List.getElem_cons_succ, List.setIfInBounds_toArray, List.set_cons_zero, List.set_cons_succ])
                (refine wpAnyH_take (i := 8) (v := ?_) rfl (by kernel_rfl) (by kernel_rfl) (by kernel_rfl) (fun _ _ _ h => h) (Or.inl ⟨by rfl, ?_⟩) hHeld ?_; rotate_left 1; focus (intro w hSw; (try dsimp only at hSw); go_simp; try with_reducible rfl)); (try simp only [Act.put, List.getElem_toArray, List.getElem_cons_zero, List.getElem_cons_succ, List.setIfInBounds_toArray, List.set_cons_zero, List.set_cons_succ])
                refine wpAnyH_done (by kernel_rfl) ?_ _
              all_goals
                have hw2 := B2.out.size
                have hq2p : q2 ≤ 100001 := by rw [HQ2.out, List.length_append, List.length_take, List.length_singleton]; omega
                have HLA := Lib.hid (show gs < wa.heap.size ∧ bt < wa.heap.size ∧ OB < wa.heap.size from ⟨STA.out.lt.1, STA.out.lt.2, BOA.out.lt⟩)
                have kga := (BJA.out.cell (p := ⟨gs, 0, none⟩) STJ.out.lt.1).trans ((BOJ.out.cell (p := ⟨gs, 0, none⟩) STI.out.lt.1).trans HKGI.out.1)
                have kta := (BJA.out.cell (p := ⟨bt, t, none⟩) STJ.out.lt.2).trans ((BOJ.out.cell (p := ⟨bt, t, none⟩) STI.out.lt.2).trans HKGI.out.2)
                have HKA := Lib.hid (And.intro kga kta)
                have HOA := Lib.hid BOA.out.c5.2.1
                have HFA := Lib.hid (show wa.frozen? ⟨bt, t, none⟩ = false by obtain ⟨vs, kb, _⟩ := STA.out.tab; exact kb.2.1 t)
                have HNE2 := Lib.hid (show bt ≠ gs ∧ bt ≠ OB from ⟨Ne.symm HGB0.out, fun e => by have h1 := ST.out.lt.2; have h2 := HOB.out; have h3 := HST0.out.lt.2; omega⟩)
                clear kga kta
                go_upto_region 19 with fail
                refine wp_region_held_drew (S := fun w' => w'.cell? ⟨gs, 0, none⟩ = some (.slice (some ⟨bt, 0, none⟩) N N) ∧ w'.cell? ⟨OB, 1, none⟩ = some (.int .i64 (t : Int))) (by kernel_rfl) (⟨(B2.out.cell (p := ⟨gs, 0, none⟩) HLA.out.1).trans HKA.out.1, (B2.out.cell (p := ⟨OB, 1, none⟩) HLA.out.2.2).trans HOA.out⟩) (fun hHeld => ?_)
                (refine wpAnyH_take (i := 0) (v := ?_) rfl (by kernel_rfl) (by kernel_rfl) (by kernel_rfl) (fun _ _ _ h => h) (Or.inl ⟨by rfl, ?_⟩) hHeld ?_; rotate_left 1; focus (intro w hSw; (try dsimp only at hSw); go_simp; try with_reducible rfl)); (try simp only [Act.put, List.getElem_toArray, List.getElem_cons_zero, List.getElem_cons_succ, List.setIfInBounds_toArray, List.set_cons_zero, List.set_cons_succ])
                (refine wpAnyH_take (i := 1) (v := ?_) rfl (by kernel_rfl) (by kernel_rfl) (by kernel_rfl) (fun _ _ _ h => h) (Or.inl ⟨by rfl, ?_⟩) hHeld ?_; rotate_left 1; focus (intro w hSw; (try dsimp only at hSw); go_simp; try with_reducible rfl)); (try simp only [Act.put, List.getElem_toArray, List.getElem_cons_zero, List.getElem_cons_succ, List.setIfInBounds_toArray, List.set_cons_zero, List.set_cons_succ])
                (refine wpAnyH_take (i := 2) (v := ?_) rfl (by kernel_rfl) (by kernel_rfl) (by kernel_rfl) (fun _ _ _ h => h) (Or.inl ⟨by rfl, ?_⟩) hHeld ?_; rotate_left 1; focus (intro w hSw; (try dsimp only at hSw); go_simp; try with_reducible rfl)); (try simp only [Act.put, List.getElem_toArray, List.getElem_cons_zero, List.getElem_cons_succ, List.setIfInBounds_toArray, List.set_cons_zero, List.set_cons_succ])
                (refine wpAnyH_take (i := 3) (v := ?_) rfl (by kernel_rfl) (by kernel_rfl) (by kernel_rfl) (fun _ _ _ h => h) (Or.inl ⟨by rfl, ?_⟩) hHeld ?_; rotate_left 1; focus (intro w hSw; (try dsimp only at hSw); go_simp; try with_reducible rfl)); (try simp only [Act.put, List.getElem_toArray, List.getElem_cons_zero, List.getElem_cons_succ, List.setIfInBounds_toArray, List.set_cons_zero, List.set_cons_succ])
                (refine wpAnyH_take (i := 4) (v := ?_) rfl (by kernel_rfl) (by kernel_rfl) (by kernel_rfl) (fun _ _ _ h => h) (Or.inl ⟨by rfl, ?_⟩) hHeld ?_; rotate_left 1; focus (intro w hSw; (try dsimp only at hSw); go_simp; try with_reducible rfl)); (try simp only [Act.put, List.getElem_toArray, List.getElem_cons_zero, List.getElem_cons_succ, List.setIfInBounds_toArray, List.set_cons_zero, List.set_cons_succ])
                (refine wpAnyH_take (i := 5) (v := ?_) rfl (by kernel_rfl) (by kernel_rfl) (by kernel_rfl) (fun _ _ _ h => h) (Or.inl ⟨by rfl, ?_⟩) hHeld ?_; rotate_left 1; focus (intro w hSw; (try dsimp only at hSw); go_simp; try with_reducible rfl)); (try simp only [Act.put, List.getElem_toArray, List.getElem_cons_zero, List.getElem_cons_succ, List.setIfInBounds_toArray, List.set_cons_zero, List.set_cons_succ])
                (refine wpAnyH_take (i := 6) (v := ?_) rfl (by kernel_rfl) (by kernel_rfl) (by kernel_rfl) (fun _ _ _ h => h) (Or.inl ⟨by rfl, ?_⟩) hHeld ?_; rotate_left 1; focus (intro w hSw; (try dsimp only at hSw); go_simp; try with_reducible rfl)); (try simp only [Act.put, List.getElem_toArray, List.getElem_cons_zero, List.getElem_cons_succ, List.setIfInBounds_toArray, List.set_cons_zero, List.set_cons_succ])
                (refine wpAnyH_take (i := 7) (v := ?_) rfl (by kernel_rfl) (by kernel_rfl) (by kernel_rfl) (fun _ _ _ h => h) (Or.inl ⟨by rfl, ?_⟩) hHeld ?_; rotate_left 1; focus (intro w hSw; (try dsimp only at hSw); go_simp; try with_reducible rfl)); (try simp only [Act.put, List.getElem_toArray, List.getElem_cons_zero, List.getElem_cons_succ, List.setIfInBounds_toArray, List.set_cons_zero, List.set_cons_succ])
                (refine wpAnyH_take (i := 8) (v := ?_) rfl (by kernel_rfl) (by kernel_rfl) (by kernel_rfl) (fun _ _ _ h => h) (Or.inl ⟨by rfl, ?_⟩) hHeld ?_; rotate_left 1; focus (intro w hSw; (try dsimp only at hSw); go_simp; try with_reducible rfl)); (try simp only [Act.put, List.getElem_toArray, List.getElem_cons_zero, List.getElem_cons_succ, List.setIfInBounds_toArray, List.set_cons_zero, List.set_cons_succ])
                (refine wpAnyH_take (i := 9) (v := ?_) rfl (by kernel_rfl) (by kernel_rfl) (by kernel_rfl) (fun _ _ _ h => h) (Or.inl ⟨by rfl, ?_⟩) hHeld ?_; rotate_left 1; focus (intro w hSw; (try dsimp only at hSw); go_simp; try with_reducible rfl)); (try simp only [Act.put, List.getElem_toArray, List.getElem_cons_zero, List.getElem_cons_succ, List.setIfInBounds_toArray, List.set_cons_zero, List.set_cons_succ])
                refine wpAnyH_ready (rs := [10]) (by kernel_rfl) (by simp) ?_
                refine AllReadyH.cons rfl (fun K hK => ?_) AllReadyH.nil
                refine step_append_Own (w := _) rfl (.tmp 114) (.tmp 117) 153 rfl wa.heap.size 155 i0 _ 40 Try.underlying153 hi hz0 hz1 hz2 rfl (R := cellRep) (S := fun _ => False) (l := lt.take p ++ [(⟨ok, ol, og, vv⟩ : Cell)]) (l' := lt.drop p) (.slice A2 q2 c2) rfl OW2.out.drew _ (mt - p) _ rfl (((SLA.out.from_ (lo := p) (by omega) (A' := _) (fun hlt b o h => by injection h with h; injection h with h1 h2 h3; subst h1 h2; exact if_neg (by have := HMC.out.1; omega))).srcK flat_cell (fun q hq => B2.out.cell (STA.out.hU _ hq)))) (by rw [← HQ2.out]; simp only [maxLen]; omega) (by rw [← HQ2.out]; omega) (by omega) (show wa.heap.size ≤ w2.heap.size from B2.out.size) ?_
                intro v3 w3 own3 gr3 at3
                have bel3 := (below_drewN B2.out 1).grown gr3 B2.out.size (fun k hk => OW2.out.row_ge hk)
                obtain ⟨A3, c3, rfl, hlc3, hcm3, sl3⟩ := own3.isSl (S' := fun k => U1 k ∨ (wa.heap.size ≤ k ∧ k < w3.heap.size)) (fun _ h => h.elim) (fun k h1 h2 => .inr ⟨h1, h2⟩)
                obtain ⟨q3, hq3⟩ : ∃ q3, q3 = (lt.take p ++ [(⟨ok, ol, og, vv⟩ : Cell)] ++ lt.drop p).length := ⟨_, rfl⟩
                rw [← hq3] at sl3 hlc3 ⊢
                have SL3 := Lib.hid sl3; have HC3 := Lib.hid (And.intro hlc3 hcm3); have B3 := Lib.hid bel3
                have kBv : w3.cell? ⟨bt, t, none⟩ = some (.slice _ mt ct) := (B3.out.cell (p := ⟨bt, t, none⟩) HLA.out.2.1).trans HKA.out.2
                have kBf : w3.frozen? ⟨bt, t, none⟩ = false := (World.frozen?_of_block (B3.out.block bt HLA.out.2.1)).trans HFA.out
                have HS3 := Lib.hid (show w3.cell? ⟨gs, 0, none⟩ = some (.slice (some ⟨bt, 0, none⟩) N N) ∧ w3.cell? ⟨OB, 1, none⟩ = some (.int .i64 (t : Int)) from ⟨(B3.out.cell (p := ⟨gs, 0, none⟩) HLA.out.1).trans HKA.out.1, (B3.out.cell (p := ⟨OB, 1, none⟩) HLA.out.2.2).trans HOA.out⟩)
                have HS4 := Lib.hid (show ∀ v : Value, (w3.setCell ⟨bt, t, none⟩ v).cell? ⟨gs, 0, none⟩ = some (.slice (some ⟨bt, 0, none⟩) N N) ∧ (w3.setCell ⟨bt, t, none⟩ v).cell? ⟨OB, 1, none⟩ = some (.int .i64 (t : Int)) from fun v => ⟨(World.cell?_setCell_far w3 _ _ v HNE2.out.1).trans HS3.out.1, (World.cell?_setCell_far w3 _ _ v HNE2.out.2).trans HS3.out.2⟩)
                clear own3 gr3 at3 sl3 hlc3 hcm3 bel3 hq3
                refine hK.out _ _ (HS3.out) (fun hHeld2 => ?_)
                clear hK K hHeld; have hHeld := hHeld2; clear hHeld2; (try simp only [Act.put, List.getElem_toArray, List.getElem_cons_zero, List.getElem_cons_succ, List.setIfInBounds_toArray, List.set_cons_zero, List.set_cons_succ])
                (refine wpAnyH_take (i := 11) (v := ?_) rfl (by kernel_rfl) (by kernel_rfl) (by kernel_rfl) (fun _ _ _ h => h) (Or.inl ⟨by rfl, ?_⟩) hHeld ?_; rotate_left 1; focus (intro w hSw; (try dsimp only at hSw); go_simp; try with_reducible rfl)); (try simp only [Act.put, List.getElem_toArray, List.getElem_cons_zero, List.getElem_cons_succ, List.setIfInBounds_toArray, List.set_cons_zero, List.set_cons_succ])
                refine wpAnyH_ready (rs := [12]) (by kernel_rfl) (by simp) ?_
                refine AllReadyH.cons rfl (fun K hK => ?_) AllReadyH.nil
                go_simp
                refine hK.out _ _ (HS4.out _) (fun hHeld2 => ?_)
                clear hK K hHeld; have hHeld := hHeld2; clear hHeld2; (try simp only [Act.put, List.getElem_toArray, List.getElem_cons_zero, List.getElem_cons_succ, List.setIfInBounds_toArray, List.set_cons_zero, List.set_cons_succ])
                refine wpAnyH_done (by kernel_rfl) ?_ _
                go_wp2_with fail
                have hsz3 : wo.heap.size ≤ (w3.setCell ⟨bt, t, none⟩ (.slice A3 q3 c3)).heap.size := by
                  have h1 := HB1.out.size
                  have h2 := BI.out.size
                  have h3 := BOJ.out.size
                  have h4 := BJA.out.size
                  have h5 := B3.out.size
                  simp
                  omega
                have hwo : w.heap.size ≤ wa.heap.size := by
                  have h0 := GR.out.size
                  have h1 := HB1.out.size
                  have h2 := BI.out.size
                  have h3 := BOJ.out.size
                  have h4 := BJA.out.size
                  omega
                have RF := Lib.hid ((STA.out.put (t := t) (l := lt.take p ++ [(⟨ok, ol, og, vv⟩ : Cell)] ++ lt.drop p) B3.out HTT.out SL3.out HC3.out.1 HC3.out.2).same (U' := fun k => U k ∨ (w.heap.size ≤ k ∧ k < (w3.setCell ⟨bt, t, none⟩ (.slice A3 q3 c3)).heap.size)) (fun k hk => hk.elim (HSUB.out _ hsz3 k) (fun e => .inr ⟨Nat.le_trans hwo e.1, by simpa using e.2⟩)) (HSLT.out _ hsz3) (HSN1.out _) (HSN2.out _))
                have GF := Lib.hid (grown_trans (HGRW.out w3 (BI.out.trans ((BOJ.out.trans ((BJA.out.trans (B3.out.mono BJA.out.size)).mono BOJ.out.size)).mono BI.out.size))) (grown_setB w3 ⟨bt, t, none⟩ (.slice A3 q3 c3)))
                go_roundw
                case rel => exact ⟨p0 + 1, q0 + 1, by go_num, by go_num, by omega, by omega, by rw [HSN.out, HP2.out, HCO.out]; exact RF.out, GF.out⟩
                case measure => simp [intOf]; omega
        · obtain rfl : mt = p := by omega
          have hm1 : decide ((mt : Int) < (mt : Int)) = false := by simp
          have HNO := Lib.hid (show lt[mt]? = none from List.getElem?_eq_none (by rw [← HML.out]; exact Nat.le_refl _))
          have HPUT := Lib.hid (putC_at lt ⟨ol, (t : Int), ok, og, ov⟩ mt (by rw [← HML.out]; exact Nat.le_refl _) HALL.out (fun c hc => by rw [HNO.out] at hc; cases hc))
          rw [HNO.out] at HPUT
          have HP2 := Lib.hid (show putC lt ⟨ol, (t : Int), ok, og, ov⟩ = lt.take mt ++ [cellOf ⟨ol, (t : Int), ok, og, ov⟩] ++ lt.drop mt from HPUT.out)
          clear hlt2
          go_wp2_with fail
          go_quiet (fail)
          obtain ⟨n1q, rfl⟩ : ∃ q : Nat, q = nq := ⟨_, rfl⟩
          go_upto_region 11 with fail
          go_quiet (fail)
          obtain ⟨n2q, rfl⟩ : ∃ q : Nat, q = nq := ⟨_, rfl⟩
          go_upto_region 12 with fail
          go_quiet (fail)
          go_upto_region 13 with fail
          obtain ⟨wj, hwj⟩ : ∃ q, q = ((wi.drewN n1q).drewN n2q).drewN nq := ⟨_, rfl⟩
          have BJ := Lib.hid (show Below wp.heap.size wp wj by rw [hwj]; exact below_drewN (below_drewN (below_drewN BI.out _) _) _)
          have BOJ := Lib.hid (show Below wi.heap.size wi wj by rw [hwj]; exact below_drewN (below_drewN (below_drewN (Below.refl _ _) _) _) _)
          rw [← hwj]
          have HKGI := Lib.hid (And.intro kgi kti)
          clear hwj o0 o1 o2 o3 o4 oz kgi kti
          obtain ⟨o0, o1, o2, o3, o4, oz⟩ := (BOI.out.after BOJ.out).c5
          obtain ⟨XB, hXB⟩ : ∃ q, q = wj.heap.size := ⟨_, rfl⟩
          have HXB := Lib.hid hXB
          have SLJ := Lib.hid (show IsSl cellRep wj U1 _ mt lt from SLI.out.keep (fun q hq => BOJ.out.cell (STI.out.hU _ hq)))
          have STJ := Lib.hid (STI.out.below BOJ.out)
          have HOJ := Lib.hid (BOI.out.after BOJ.out)
          cases og
          case' true =>
            go_upto_region 14 with fail
            obtain ⟨wx, hwx2⟩ : ∃ q, q = wj.alloc (.cells #[.int .i64 ok, .int .i64 ol, .bool true, .string ov] 155) := ⟨_, rfl⟩
            have BXX := Lib.hid (show Blk wx XB [.int .i64 ok, .int .i64 ol, .bool true, .string ov] by rw [hwx2, hXB]; exact Blk.new rfl rfl)
            have BJX := Lib.hid (show Below wj.heap.size wj wx by rw [hwx2]; exact (Below.refl _ _).alloc (Nat.le_refl _) _)
            rw [← hwx2, ← hXB]
            clear hwx2 hXB o0 o1 o2 o3 o4 oz
            obtain ⟨o0, o1, o2, o3, o4, oz⟩ := (HOJ.out.after BJX.out).c5
            obtain ⟨y0, y1, y2, y3, yz⟩ := BXX.out.c4
            go_upto_region 16 with fail
            obtain ⟨wa, hwa⟩ : ∃ q, q = wx.setCell ⟨XB, 3, none⟩ (.string ⟨#[]⟩) := ⟨_, rfl⟩
            obtain ⟨vv, hvv⟩ : ∃ q : ByteArray, q = ⟨#[]⟩ := ⟨_, rfl⟩
            obtain ⟨og, hog⟩ : ∃ q : Bool, q = true := ⟨_, rfl⟩
            have BXA := Lib.hid (show Blk wa XB [.int .i64 ok, .int .i64 ol, .bool og, .string vv] by rw [hwa, hog, hvv]; exact BXX.out.put (j := 3) (by simp) _ rfl)
            have BJA := Lib.hid (show Below wj.heap.size wj wa by rw [hwa]; exact BJX.out.setCell (by show wj.heap.size ≤ XB; rw [HXB.out]; exact Nat.le_refl _) _)
            have HXW := Lib.hid (show (⟨ok, ol, og, vv⟩ : Cell).wf from ⟨HWX.out.2.2.1, HWX.out.1, by rw [hvv]; exact Nat.zero_le _⟩)
            have HCO := Lib.hid (show cellOf ⟨ol, (t : Int), ok, true, ov⟩ = ⟨ok, ol, og, vv⟩ by rw [hog, hvv]; rfl)
            rw [← hwa]
            clear hwa hvv hog y0 y1 y2 y3 yz o0 o1 o2 o3 o4 oz
          case' false =>
            go_upto_region 14 with fail
            obtain ⟨wx, hwx2⟩ : ∃ q, q = wj.alloc (.cells #[.int .i64 ok, .int .i64 ol, .bool false, .string ov] 155) := ⟨_, rfl⟩
            have BXX := Lib.hid (show Blk wx XB [.int .i64 ok, .int .i64 ol, .bool false, .string ov] by rw [hwx2, hXB]; exact Blk.new rfl rfl)
            have BJX := Lib.hid (show Below wj.heap.size wj wx by rw [hwx2]; exact (Below.refl _ _).alloc (Nat.le_refl _) _)
            rw [← hwx2, ← hXB]
            clear hwx2 hXB o0 o1 o2 o3 o4 oz
            obtain ⟨o0, o1, o2, o3, o4, oz⟩ := (HOJ.out.after BJX.out).c5
            obtain ⟨y0, y1, y2, y3, yz⟩ := BXX.out.c4
            go_upto_region 16 with fail
            obtain ⟨wa, hwa⟩ : ∃ q, q = wx := ⟨_, rfl⟩
            obtain ⟨vv, hvv⟩ : ∃ q : ByteArray, q = ov := ⟨_, rfl⟩
            obtain ⟨og, hog⟩ : ∃ q : Bool, q = false := ⟨_, rfl⟩
            have BXA := Lib.hid (show Blk wa XB [.int .i64 ok, .int .i64 ol, .bool og, .string vv] by rw [hwa, hog, hvv]; exact BXX.out)
            have BJA := Lib.hid (show Below wj.heap.size wj wa by rw [hwa]; exact BJX.out)
            have HXW := Lib.hid (show (⟨ok, ol, og, vv⟩ : Cell).wf from ⟨HWX.out.2.2.1, HWX.out.1, by rw [hvv]; exact HWX.out.2.2.2⟩)
            have HCO := Lib.hid (show cellOf ⟨ol, (t : Int), ok, false, ov⟩ = ⟨ok, ol, og, vv⟩ by rw [hog, hvv]; rfl)
            rw [← hwa]
            clear hwa hvv hog y0 y1 y2 y3 yz o0 o1 o2 o3 o4 oz
          all_goals
            have STA := Lib.hid (STJ.out.below BJA.out)
            have SLA := Lib.hid (show IsSl cellRep wa U1 _ mt lt from SLJ.out.keep (fun q hq => BJA.out.cell (STJ.out.hU _ hq)))
            have BOA := Lib.hid (HOJ.out.after BJA.out)
            have BD := Lib.hid (show Below wa.heap.size wa wa.drew from below_drewN (Below.refl _ _) 1)
            have HSX := Lib.hid (show ∀ Y, Below wa.heap.size wa Y → (Y.cell? ⟨XB, 0, none⟩ = some (.int .i64 ok) ∧ Y.cell? ⟨XB, 1, none⟩ = some (.int .i64 ol) ∧ Y.cell? ⟨XB, 2, none⟩ = some (.bool og) ∧ Y.cell? ⟨XB, 3, none⟩ = some (.string vv)) from fun Y hY => by obtain ⟨z0, z1, z2, z3, _⟩ := (BXA.out.after hY).c4; exact ⟨z0, z1, z2, z3⟩)
            have HSRC := Lib.hid (show ∀ Y, Below wa.heap.size wa Y → Src cellRep Y (fun _ => False) _ mt (lt.take mt) from fun Y hY => (SLA.out.cutTo (by omega)).srcK flat_cell (fun q hq => hY.cell (STA.out.hU _ hq)))
            refine wp_region_held_drew (S := fun w' => w'.cell? ⟨XB, 0, none⟩ = some (.int .i64 ok) ∧ w'.cell? ⟨XB, 1, none⟩ = some (.int .i64 ol) ∧ w'.cell? ⟨XB, 2, none⟩ = some (.bool og) ∧ w'.cell? ⟨XB, 3, none⟩ = some (.string vv)) (by kernel_rfl) (HSX.out _ BD.out) (fun hHeld => ?_)
            (refine wpAnyH_take (i := 1) (v := ?_) rfl (by kernel_rfl) (by kernel_rfl) (by kernel_rfl) (fun _ _ _ h => h) (Or.inl ⟨by rfl, ?_⟩) hHeld ?_; rotate_left 1; focus (intro w hSw; (try dsimp only at hSw); go_simp; try with_reducible rfl)); (try simp only [Act.put, List.getElem_toArray, List.getElem_cons_zero, List.getElem_cons_succ, List.setIfInBounds_toArray, List.set_cons_zero, List.set_cons_succ])
            (refine wpAnyH_take (i := 2) (v := ?_) rfl (by kernel_rfl) (by kernel_rfl) (by kernel_rfl) (fun _ _ _ h => h) (Or.inl ⟨by rfl, ?_⟩) hHeld ?_; rotate_left 1; focus (intro w hSw; (try dsimp only at hSw); go_simp; try with_reducible rfl)); (try simp only [Act.put, List.getElem_toArray, List.getElem_cons_zero, List.getElem_cons_succ, List.setIfInBounds_toArray, List.set_cons_zero, List.set_cons_succ])
            (refine wpAnyH_take (i := 3) (v := ?_) rfl (by kernel_rfl) (by kernel_rfl) (by kernel_rfl) (fun _ _ _ h => h) (Or.inl ⟨by rfl, ?_⟩) hHeld ?_; rotate_left 1; focus (intro w hSw; (try dsimp only at hSw); go_simp; try with_reducible rfl)); (try simp only [Act.put, List.getElem_toArray, List.getElem_cons_zero, List.getElem_cons_succ, List.setIfInBounds_toArray, List.set_cons_zero, List.set_cons_succ])
            (refine wpAnyH_take (i := 5) (v := ?_) rfl (by kernel_rfl) (by kernel_rfl) (by kernel_rfl) (fun _ _ _ h => h) (Or.inl ⟨by rfl, ?_⟩) hHeld ?_; rotate_left 1; focus (intro w hSw; (try dsimp only at hSw); go_simp; try with_reducible rfl)); (try simp only [Act.put, List.getElem_toArray, List.getElem_cons_zero, List.getElem_cons_succ, List.setIfInBounds_toArray, List.set_cons_zero, List.set_cons_succ])
            refine wpAnyH_ready (rs := [0, 6]) (by kernel_rfl) (by simp) ?_
            refine AllReadyH.cons rfl (fun K hK => ?_) (AllReadyH.cons rfl (fun K hK => ?_) AllReadyH.nil)
            go_simp
            refine hK.out _ _ (HSX.out _ (BD.out.alloc (Nat.le_refl _) _)) (fun hHeld2 => ?_)
            clear hK K hHeld; have hHeld := hHeld2; clear hHeld2; (try simp only [Act.put, List.getElem_toArray, List.getElem_cons_zero, List.getElem_cons_succ, List.setIfInBounds_toArray, List.set_cons_zero, List.set_cons_succ])
            refine wpAnyH_ready (rs := [4, 6]) (by kernel_rfl) (by simp) ?_
            refine AllReadyH.cons rfl (fun K hK => ?_) (AllReadyH.cons rfl (fun K hK => ?_) AllReadyH.nil)
            refine step_append_Own (w := _) rfl (.tmp 97) (.tmp 100) 153 rfl wa.heap.size 155 i0 _ 40 Try.underlying153 hi hz0 hz1 hz2 rfl (R := cellRep) (S := fun _ => False) (l := []) (l' := lt.take mt) (.slice _ 0 0) rfl (Own.nil _ _ _ (fun _ h => h.elim) _ _) _ mt _ rfl (HSRC.out _ (BD.out.alloc (Nat.le_refl _) _)) (by simp [maxLen]; omega) (by simp; omega) (by omega) (BD.out.alloc (Nat.le_refl _) _).size ?_
            intro v1 w1 own1 gr1 at1
            have bel1 := (BD.out.alloc (Nat.le_refl _) _).grown gr1 (BD.out.alloc (Nat.le_refl _) _).size (by intro k hk; simp [rowOf] at hk)
            simp only [List.nil_append] at own1
            obtain ⟨A1, c1, rfl⟩ := own1.form
            obtain ⟨q1, hq1⟩ : ∃ q1, q1 = (lt.take mt).length := ⟨_, rfl⟩
            rw [← hq1] at own1 ⊢
            have HQ1 := Lib.hid hq1; have OW1 := Lib.hid own1; have B1 := Lib.hid bel1
            clear gr1 at1 own1 bel1 hq1
            have hq1p : q1 ≤ 100000 := by rw [HQ1.out, List.length_take]; omega
            refine hK.out _ _ (HSX.out _ (B1.out)) (fun hHeld2 => ?_)
            clear hK K hHeld; have hHeld := hHeld2; clear hHeld2; (try simp only [Act.put, List.getElem_toArray, List.getElem_cons_zero, List.getElem_cons_succ, List.setIfInBounds_toArray, List.set_cons_zero, List.set_cons_succ])
            refine wpAnyH_ready (rs := [6]) (by kernel_rfl) (by simp) ?_
            refine AllReadyH.cons rfl (fun K hK => ?_) AllReadyH.nil
            go_simp
            refine hK.out _ _ (HSX.out _ (B1.out.alloc B1.out.size _)) (fun hHeld2 => ?_)
            clear hK K hHeld; have hHeld := hHeld2; clear hHeld2; (try simp only [Act.put, List.getElem_toArray, List.getElem_cons_zero, List.getElem_cons_succ, List.setIfInBounds_toArray, List.set_cons_zero, List.set_cons_succ])
            refine wpAnyH_ready (rs := [7]) (by kernel_rfl) (by simp) ?_
            refine AllReadyH.cons rfl (fun K hK => ?_) AllReadyH.nil
            refine step_append_Own (w := _) rfl (.tmp 101) (.tmp 103) 153 rfl wa.heap.size 155 i0 _ 40 Try.underlying153 hi hz0 hz1 hz2 rfl (R := cellRep) (S := fun _ => False) (l := lt.take mt) (l' := [(⟨ok, ol, og, vv⟩ : Cell)]) (.slice A1 q1 c1) rfl (OW1.out.alloc _) _ 1 1 rfl (Src.new (cs := [.int .i64 ok, .int .i64 ol, .bool og, .string vv]) ⟨rfl, HXW.out⟩) (by rw [← HQ1.out]; simp only [maxLen]; omega) (by rw [← HQ1.out]; omega) (by omega) (B1.out.alloc B1.out.size _).size ?_
            intro v2 w2 own2 gr2 at2
            have bel2 := (B1.out.alloc B1.out.size _).grown gr2 (B1.out.alloc B1.out.size _).size (fun k hk => OW1.out.row_ge hk)
            obtain ⟨A2, c2, rfl⟩ := own2.form
            obtain ⟨q2, hq2⟩ : ∃ q2, q2 = (lt.take mt ++ [(⟨ok, ol, og, vv⟩ : Cell)]).length := ⟨_, rfl⟩
            rw [← hq2] at own2 ⊢
            have HQ2 := Lib.hid hq2; have OW2 := Lib.hid own2; have B2 := Lib.hid bel2
            clear gr2 at2 own2 bel2 hq2
            refine hK.out _ _ (HSX.out _ (B2.out)) (fun hHeld2 => ?_)
            clear hK K hHeld; have hHeld := hHeld2; clear hHeld2; (try simp only [Act.put, List.getElem_toArray, List.getElem_cons_zero, List.getElem_cons_succ, List.setIfInBounds_toArray, List.set_cons_zero, List.set_cons_succ])
            (refine wpAnyH_take (i := 8) (v := ?_) rfl (by kernel_rfl) (by kernel_rfl) (by kernel_rfl) (fun _ _ _ h => h) (Or.inl ⟨by rfl, ?_⟩) hHeld ?_; rotate_left 1; focus (intro w hSw; (try dsimp only at hSw); go_simp; try with_reducible rfl)); (try simp only [Act.put, List.getElem_toArray, List.getElem_cons_zero, List.getElem_cons_succ, List.setIfInBounds_toArray, List.set_cons_zero, List.set_cons_succ])
            refine wpAnyH_done (by kernel_rfl) ?_ _
            rotate_left 1
            go_simp
            refine hK.out _ _ (HSX.out _ ((BD.out.alloc (Nat.le_refl _) _).alloc (by simp) _)) (fun hHeld2 => ?_)
            clear hK K hHeld; have hHeld := hHeld2; clear hHeld2; (try simp only [Act.put, List.getElem_toArray, List.getElem_cons_zero, List.getElem_cons_succ, List.setIfInBounds_toArray, List.set_cons_zero, List.set_cons_succ])
            refine wpAnyH_ready (rs := [4]) (by kernel_rfl) (by simp) ?_
            refine AllReadyH.cons rfl (fun K hK => ?_) AllReadyH.nil
            refine step_append_Own (w := _) rfl (.tmp 97) (.tmp 100) 153 rfl wa.heap.size 155 i0 _ 40 Try.underlying153 hi hz0 hz1 hz2 rfl (R := cellRep) (S := fun _ => False) (l := []) (l' := lt.take mt) (.slice _ 0 0) rfl (Own.nil _ _ _ (fun _ h => h.elim) _ _) _ mt _ rfl (HSRC.out _ ((BD.out.alloc (Nat.le_refl _) _).alloc (by simp) _)) (by simp [maxLen]; omega) (by simp; omega) (by omega) ((BD.out.alloc (Nat.le_refl _) _).alloc (by simp) _).size ?_
            intro v1 w1 own1 gr1 at1
            have bel1 := ((BD.out.alloc (Nat.le_refl _) _).alloc (by simp) _).grown gr1 ((BD.out.alloc (Nat.le_refl _) _).alloc (by simp) _).size (by intro k hk; simp [rowOf] at hk)
            have BK1 := Lib.hid ((show Blk (((wa.alloc (.cells #[] 155)).alloc (.cells #[.int .i64 ok, .int .i64 ol, .bool og, .string vv] 155)).drew) (wa.heap.size + 1) [.int .i64 ok, .int .i64 ol, .bool og, .string vv] from (Blk.new rfl (by simp)).drew).after (show Below (((wa.alloc (.cells #[] 155)).alloc (.cells #[.int .i64 ok, .int .i64 ol, .bool og, .string vv] 155)).drew).heap.size (((wa.alloc (.cells #[] 155)).alloc (.cells #[.int .i64 ok, .int .i64 ol, .bool og, .string vv] 155)).drew) w1 from ⟨gr1.os, gr1.tape, gr1.output, gr1.size, fun k hk => gr1.block k hk (by simp [rowOf])⟩))
            simp only [List.nil_append] at own1
            obtain ⟨A1, c1, rfl⟩ := own1.form
            obtain ⟨q1, hq1⟩ : ∃ q1, q1 = (lt.take mt).length := ⟨_, rfl⟩
            rw [← hq1] at own1 ⊢
            have HQ1 := Lib.hid hq1; have OW1 := Lib.hid own1; have B1 := Lib.hid bel1
            clear gr1 at1 own1 bel1 hq1
            have hq1p : q1 ≤ 100000 := by rw [HQ1.out, List.length_take]; omega
            refine hK.out _ _ (HSX.out _ (B1.out)) (fun hHeld2 => ?_)
            clear hK K hHeld; have hHeld := hHeld2; clear hHeld2; (try simp only [Act.put, List.getElem_toArray, List.getElem_cons_zero, List.getElem_cons_succ, List.setIfInBounds_toArray, List.set_cons_zero, List.set_cons_succ])
            refine wpAnyH_ready (rs := [7]) (by kernel_rfl) (by simp) ?_
            refine AllReadyH.cons rfl (fun K hK => ?_) AllReadyH.nil
            refine step_append_Own (w := _) rfl (.tmp 101) (.tmp 103) 153 rfl wa.heap.size 155 i0 _ 40 Try.underlying153 hi hz0 hz1 hz2 rfl (R := cellRep) (S := fun _ => False) (l := lt.take mt) (l' := [(⟨ok, ol, og, vv⟩ : Cell)]) (.slice A1 q1 c1) rfl (OW1.out) _ 1 1 rfl ((IsSl.oneC (R := cellRep) (a := (⟨ok, ol, og, vv⟩ : Cell)) (S := fun _ => True) BK1.out trivial ⟨rfl, HXW.out⟩).srcK flat_cell (fun _ _ => rfl)) (by rw [← HQ1.out]; simp only [maxLen]; omega) (by rw [← HQ1.out]; omega) (by omega) (B1.out).size ?_
            intro v2 w2 own2 gr2 at2
            have bel2 := (B1.out).grown gr2 (B1.out).size (fun k hk => OW1.out.row_ge hk)
            obtain ⟨A2, c2, rfl⟩ := own2.form
            obtain ⟨q2, hq2⟩ : ∃ q2, q2 = (lt.take mt ++ [(⟨ok, ol, og, vv⟩ : Cell)]).length := ⟨_, rfl⟩
            rw [← hq2] at own2 ⊢
            have HQ2 := Lib.hid hq2; have OW2 := Lib.hid own2; have B2 := Lib.hid bel2
            clear gr2 at2 own2 bel2 hq2
            refine hK.out _ _ (HSX.out _ (B2.out)) (fun hHeld2 => ?_)
            clear hK K hHeld; have hHeld := hHeld2; clear hHeld2; (try simp only [Act.put, List.getElem_toArray, List.getElem_cons_zero, List.getElem_cons_succ, List.setIfInBounds_toArray, List.set_cons_zero, List.set_cons_succ])
            (refine wpAnyH_take (i := 8) (v := ?_) rfl (by kernel_rfl) (by kernel_rfl) (by kernel_rfl) (fun _ _ _ h => h) (Or.inl ⟨by rfl, ?_⟩) hHeld ?_; rotate_left 1; focus (intro w hSw; (try dsimp only at hSw); go_simp; try with_reducible rfl)); (try simp only [Act.put, List.getElem_toArray, List.getElem_cons_zero, List.getElem_cons_succ, List.setIfInBounds_toArray, List.set_cons_zero, List.set_cons_succ])
            refine wpAnyH_done (by kernel_rfl) ?_ _
            rotate_left 1
            go_simp
            refine hK.out _ _ (HSX.out _ (BD.out.alloc (Nat.le_refl _) _)) (fun hHeld2 => ?_)
            clear hK K hHeld; have hHeld := hHeld2; clear hHeld2; (try simp only [Act.put, List.getElem_toArray, List.getElem_cons_zero, List.getElem_cons_succ, List.setIfInBounds_toArray, List.set_cons_zero, List.set_cons_succ])
            refine wpAnyH_ready (rs := [0]) (by kernel_rfl) (by simp) ?_
            refine AllReadyH.cons rfl (fun K hK => ?_) AllReadyH.nil
            go_simp
            refine hK.out _ _ (HSX.out _ ((BD.out.alloc (Nat.le_refl _) _).alloc (by simp) _)) (fun hHeld2 => ?_)
            clear hK K hHeld; have hHeld := hHeld2; clear hHeld2; (try simp only [Act.put, List.getElem_toArray, List.getElem_cons_zero, List.getElem_cons_succ, List.setIfInBounds_toArray, List.set_cons_zero, List.set_cons_succ])
            refine wpAnyH_ready (rs := [4]) (by kernel_rfl) (by simp) ?_
            refine AllReadyH.cons rfl (fun K hK => ?_) AllReadyH.nil
            refine step_append_Own (w := _) rfl (.tmp 97) (.tmp 100) 153 rfl wa.heap.size 155 i0 _ 40 Try.underlying153 hi hz0 hz1 hz2 rfl (R := cellRep) (S := fun _ => False) (l := []) (l' := lt.take mt) (.slice _ 0 0) rfl (Own.nil _ _ _ (fun _ h => h.elim) _ _) _ mt _ rfl (HSRC.out _ ((BD.out.alloc (Nat.le_refl _) _).alloc (by simp) _)) (by simp [maxLen]; omega) (by simp; omega) (by omega) ((BD.out.alloc (Nat.le_refl _) _).alloc (by simp) _).size ?_
            intro v1 w1 own1 gr1 at1
            have bel1 := ((BD.out.alloc (Nat.le_refl _) _).alloc (by simp) _).grown gr1 ((BD.out.alloc (Nat.le_refl _) _).alloc (by simp) _).size (by intro k hk; simp [rowOf] at hk)
            have BK1 := Lib.hid ((show Blk (((wa.alloc (.cells #[.int .i64 ok, .int .i64 ol, .bool og, .string vv] 155)).alloc (.cells #[] 155)).drew) (wa.heap.size) [.int .i64 ok, .int .i64 ol, .bool og, .string vv] from ((Blk.new rfl rfl).alloc _).drew).after (show Below (((wa.alloc (.cells #[.int .i64 ok, .int .i64 ol, .bool og, .string vv] 155)).alloc (.cells #[] 155)).drew).heap.size (((wa.alloc (.cells #[.int .i64 ok, .int .i64 ol, .bool og, .string vv] 155)).alloc (.cells #[] 155)).drew) w1 from ⟨gr1.os, gr1.tape, gr1.output, gr1.size, fun k hk => gr1.block k hk (by simp [rowOf])⟩))
            simp only [List.nil_append] at own1
            obtain ⟨A1, c1, rfl⟩ := own1.form
            obtain ⟨q1, hq1⟩ : ∃ q1, q1 = (lt.take mt).length := ⟨_, rfl⟩
            rw [← hq1] at own1 ⊢
            have HQ1 := Lib.hid hq1; have OW1 := Lib.hid own1; have B1 := Lib.hid bel1
            clear gr1 at1 own1 bel1 hq1
            have hq1p : q1 ≤ 100000 := by rw [HQ1.out, List.length_take]; omega
            refine hK.out _ _ (HSX.out _ (B1.out)) (fun hHeld2 => ?_)
            clear hK K hHeld; have hHeld := hHeld2; clear hHeld2; (try simp only [Act.put, List.getElem_toArray, List.getElem_cons_zero, List.getElem_cons_succ, List.setIfInBounds_toArray, List.set_cons_zero, List.set_cons_succ])
            refine wpAnyH_ready (rs := [7]) (by kernel_rfl) (by simp) ?_
            refine AllReadyH.cons rfl (fun K hK => ?_) AllReadyH.nil
            refine step_append_Own (w := _) rfl (.tmp 101) (.tmp 103) 153 rfl wa.heap.size 155 i0 _ 40 Try.underlying153 hi hz0 hz1 hz2 rfl (R := cellRep) (S := fun _ => False) (l := lt.take mt) (l' := [(⟨ok, ol, og, vv⟩ : Cell)]) (.slice A1 q1 c1) rfl (OW1.out) _ 1 1 rfl ((IsSl.oneC (R := cellRep) (a := (⟨ok, ol, og, vv⟩ : Cell)) (S := fun _ => True) BK1.out trivial ⟨rfl, HXW.out⟩).srcK flat_cell (fun _ _ => rfl)) (by rw [← HQ1.out]; simp only [maxLen]; omega) (by rw [← HQ1.out]; omega) (by omega) (B1.out).size ?_
            intro v2 w2 own2 gr2 at2
            have bel2 := (B1.out).grown gr2 (B1.out).size (fun k hk => OW1.out.row_ge hk)
            obtain ⟨A2, c2, rfl⟩ := own2.form
            obtain ⟨q2, hq2⟩ : ∃ q2, q2 = (lt.take mt ++ [(⟨ok, ol, og, vv⟩ : Cell)]).length := ⟨_, rfl⟩
            rw [← hq2] at own2 ⊢
            have HQ2 := Lib.hid hq2; have OW2 := Lib.hid own2; have B2 := Lib.hid bel2
            clear gr2 at2 own2 bel2 hq2
            refine hK.out _ _ (HSX.out _ (B2.out)) (fun hHeld2 => ?_)
            clear hK K hHeld; have hHeld := hHeld2; clear hHeld2; (try simp only [Act.put, List.getElem_toArray, List.getElem_cons_zero, List.getElem_cons_succ, List.setIfInBounds_toArray, List.set_cons_zero, List.set_cons_succ])
            (refine wpAnyH_take (i := 8) (v := ?_) rfl (by kernel_rfl) (by kernel_rfl) (by kernel_rfl) (fun _ _ _ h => h) (Or.inl ⟨by rfl, ?_⟩) hHeld ?_; rotate_left 1; focus (intro w hSw; (try dsimp only at hSw); go_simp; try with_reducible rfl)); (try simp only [Act.put, List.getElem_toArray, List.getElem_cons_zero, List.getElem_cons_succ, List.setIfInBounds_toArray, List.set_cons_zero, List.set_cons_succ])
            refine wpAnyH_done (by kernel_rfl) ?_ _
          all_goals
            have hw2 := B2.out.size
            have hq2p : q2 ≤ 100001 := by rw [HQ2.out, List.length_append, List.length_take, List.length_singleton]; omega
            have HLA := Lib.hid (show gs < wa.heap.size ∧ bt < wa.heap.size ∧ OB < wa.heap.size from ⟨STA.out.lt.1, STA.out.lt.2, BOA.out.lt⟩)
            have kga := (BJA.out.cell (p := ⟨gs, 0, none⟩) STJ.out.lt.1).trans ((BOJ.out.cell (p := ⟨gs, 0, none⟩) STI.out.lt.1).trans HKGI.out.1)
            have kta := (BJA.out.cell (p := ⟨bt, t, none⟩) STJ.out.lt.2).trans ((BOJ.out.cell (p := ⟨bt, t, none⟩) STI.out.lt.2).trans HKGI.out.2)
            have HKA := Lib.hid (And.intro kga kta)
            have HOA := Lib.hid BOA.out.c5.2.1
            have HFA := Lib.hid (show wa.frozen? ⟨bt, t, none⟩ = false by obtain ⟨vs, kb, _⟩ := STA.out.tab; exact kb.2.1 t)
            have HNE2 := Lib.hid (show bt ≠ gs ∧ bt ≠ OB from ⟨Ne.symm HGB0.out, fun e => by have h1 := ST.out.lt.2; have h2 := HOB.out; have h3 := HST0.out.lt.2; omega⟩)
            clear kga kta
            go_upto_region 19 with fail
            refine wp_region_held_drew (S := fun w' => w'.cell? ⟨gs, 0, none⟩ = some (.slice (some ⟨bt, 0, none⟩) N N) ∧ w'.cell? ⟨OB, 1, none⟩ = some (.int .i64 (t : Int))) (by kernel_rfl) (⟨(B2.out.cell (p := ⟨gs, 0, none⟩) HLA.out.1).trans HKA.out.1, (B2.out.cell (p := ⟨OB, 1, none⟩) HLA.out.2.2).trans HOA.out⟩) (fun hHeld => ?_)
            (refine wpAnyH_take (i := 0) (v := ?_) rfl (by kernel_rfl) (by kernel_rfl) (by kernel_rfl) (fun _ _ _ h => h) (Or.inl ⟨by rfl, ?_⟩) hHeld ?_; rotate_left 1; focus (intro w hSw; (try dsimp only at hSw); go_simp; try with_reducible rfl)); (try simp only [Act.put, List.getElem_toArray, List.getElem_cons_zero, List.getElem_cons_succ, List.setIfInBounds_toArray, List.set_cons_zero, List.set_cons_succ])
            (refine wpAnyH_take (i := 1) (v := ?_) rfl (by kernel_rfl) (by kernel_rfl) (by kernel_rfl) (fun _ _ _ h => h) (Or.inl ⟨by rfl, ?_⟩) hHeld ?_; rotate_left 1; focus (intro w hSw; (try dsimp only at hSw); go_simp; try with_reducible rfl)); (try simp only [Act.put, List.getElem_toArray, List.getElem_cons_zero, List.getElem_cons_succ, List.setIfInBounds_toArray, List.set_cons_zero, List.set_cons_succ])
            (refine wpAnyH_take (i := 2) (v := ?_) rfl (by kernel_rfl) (by kernel_rfl) (by kernel_rfl) (fun _ _ _ h => h) (Or.inl ⟨by rfl, ?_⟩) hHeld ?_; rotate_left 1; focus (intro w hSw; (try dsimp only at hSw); go_simp; try with_reducible rfl)); (try simp only [Act.put, List.getElem_toArray, List.getElem_cons_zero, List.getElem_cons_succ, List.setIfInBounds_toArray, List.set_cons_zero, List.set_cons_succ])
            (refine wpAnyH_take (i := 3) (v := ?_) rfl (by kernel_rfl) (by kernel_rfl) (by kernel_rfl) (fun _ _ _ h => h) (Or.inl ⟨by rfl, ?_⟩) hHeld ?_; rotate_left 1; focus (intro w hSw; (try dsimp only at hSw); go_simp; try with_reducible rfl)); (try simp only [Act.put, List.getElem_toArray, List.getElem_cons_zero, List.getElem_cons_succ, List.setIfInBounds_toArray, List.set_cons_zero, List.set_cons_succ])
            (refine wpAnyH_take (i := 4) (v := ?_) rfl (by kernel_rfl) (by kernel_rfl) (by kernel_rfl) (fun _ _ _ h => h) (Or.inl ⟨by rfl, ?_⟩) hHeld ?_; rotate_left 1; focus (intro w hSw; (try dsimp only at hSw); go_simp; try with_reducible rfl)); (try simp only [Act.put, List.getElem_toArray, List.getElem_cons_zero, List.getElem_cons_succ, List.setIfInBounds_toArray, List.set_cons_zero, List.set_cons_succ])
            (refine wpAnyH_take (i := 5) (v := ?_) rfl (by kernel_rfl) (by kernel_rfl) (by kernel_rfl) (fun _ _ _ h => h) (Or.inl ⟨by rfl, ?_⟩) hHeld ?_; rotate_left 1; focus (intro w hSw; (try dsimp only at hSw); go_simp; try with_reducible rfl)); (try simp only [Act.put, List.getElem_toArray, List.getElem_cons_zero, List.getElem_cons_succ, List.setIfInBounds_toArray, List.set_cons_zero, List.set_cons_succ])
            (refine wpAnyH_take (i := 6) (v := ?_) rfl (by kernel_rfl) (by kernel_rfl) (by kernel_rfl) (fun _ _ _ h => h) (Or.inl ⟨by rfl, ?_⟩) hHeld ?_; rotate_left 1; focus (intro w hSw; (try dsimp only at hSw); go_simp; try with_reducible rfl)); (try simp only [Act.put, List.getElem_toArray, List.getElem_cons_zero, List.getElem_cons_succ, List.setIfInBounds_toArray, List.set_cons_zero, List.set_cons_succ])
            (refine wpAnyH_take (i := 7) (v := ?_) rfl (by kernel_rfl) (by kernel_rfl) (by kernel_rfl) (fun _ _ _ h => h) (Or.inl ⟨by rfl, ?_⟩) hHeld ?_; rotate_left 1; focus (intro w hSw; (try dsimp only at hSw); go_simp; try with_reducible rfl)); (try simp only [Act.put, List.getElem_toArray, List.getElem_cons_zero, List.getElem_cons_succ, List.setIfInBounds_toArray, List.set_cons_zero, List.set_cons_succ])
            (refine wpAnyH_take (i := 8) (v := ?_) rfl (by kernel_rfl) (by kernel_rfl) (by kernel_rfl) (fun _ _ _ h => h) (Or.inl ⟨by rfl, ?_⟩) hHeld ?_; rotate_left 1; focus (intro w hSw; (try dsimp only at hSw); go_simp; try with_reducible rfl)); (try simp only [Act.put, List.getElem_toArray, List.getElem_cons_zero, List.getElem_cons_succ, List.setIfInBounds_toArray, List.set_cons_zero, List.set_cons_succ])
            (refine wpAnyH_take (i := 9) (v := ?_) rfl (by kernel_rfl) (by kernel_rfl) (by kernel_rfl) (fun _ _ _ h => h) (Or.inl ⟨by rfl, ?_⟩) hHeld ?_; rotate_left 1; focus (intro w hSw; (try dsimp only at hSw); go_simp; try with_reducible rfl)); (try simp only [Act.put, List.getElem_toArray, List.getElem_cons_zero, List.getElem_cons_succ, List.setIfInBounds_toArray, List.set_cons_zero, List.set_cons_succ])
            refine wpAnyH_ready (rs := [10]) (by kernel_rfl) (by simp) ?_
            refine AllReadyH.cons rfl (fun K hK => ?_) AllReadyH.nil
            refine step_append_Own (w := _) rfl (.tmp 114) (.tmp 117) 153 rfl wa.heap.size 155 i0 _ 40 Try.underlying153 hi hz0 hz1 hz2 rfl (R := cellRep) (S := fun _ => False) (l := lt.take mt ++ [(⟨ok, ol, og, vv⟩ : Cell)]) (l' := lt.drop mt) (.slice A2 q2 c2) rfl OW2.out.drew _ 0 _ rfl (by rw [List.drop_eq_nil_of_le (by rw [← HML.out]; omega)]; exact Src.nil) (by rw [← HQ2.out]; simp only [maxLen]; omega) (by rw [← HQ2.out]; omega) (by omega) (show wa.heap.size ≤ w2.heap.size from B2.out.size) ?_
            intro v3 w3 own3 gr3 at3
            have bel3 := (below_drewN B2.out 1).grown gr3 B2.out.size (fun k hk => OW2.out.row_ge hk)
            obtain ⟨A3, c3, rfl, hlc3, hcm3, sl3⟩ := own3.isSl (S' := fun k => U1 k ∨ (wa.heap.size ≤ k ∧ k < w3.heap.size)) (fun _ h => h.elim) (fun k h1 h2 => .inr ⟨h1, h2⟩)
            obtain ⟨q3, hq3⟩ : ∃ q3, q3 = (lt.take mt ++ [(⟨ok, ol, og, vv⟩ : Cell)] ++ lt.drop mt).length := ⟨_, rfl⟩
            rw [← hq3] at sl3 hlc3 ⊢
            have SL3 := Lib.hid sl3; have HC3 := Lib.hid (And.intro hlc3 hcm3); have B3 := Lib.hid bel3
            have kBv : w3.cell? ⟨bt, t, none⟩ = some (.slice _ mt ct) := (B3.out.cell (p := ⟨bt, t, none⟩) HLA.out.2.1).trans HKA.out.2
            have kBf : w3.frozen? ⟨bt, t, none⟩ = false := (World.frozen?_of_block (B3.out.block bt HLA.out.2.1)).trans HFA.out
            have HS3 := Lib.hid (show w3.cell? ⟨gs, 0, none⟩ = some (.slice (some ⟨bt, 0, none⟩) N N) ∧ w3.cell? ⟨OB, 1, none⟩ = some (.int .i64 (t : Int)) from ⟨(B3.out.cell (p := ⟨gs, 0, none⟩) HLA.out.1).trans HKA.out.1, (B3.out.cell (p := ⟨OB, 1, none⟩) HLA.out.2.2).trans HOA.out⟩)
            have HS4 := Lib.hid (show ∀ v : Value, (w3.setCell ⟨bt, t, none⟩ v).cell? ⟨gs, 0, none⟩ = some (.slice (some ⟨bt, 0, none⟩) N N) ∧ (w3.setCell ⟨bt, t, none⟩ v).cell? ⟨OB, 1, none⟩ = some (.int .i64 (t : Int)) from fun v => ⟨(World.cell?_setCell_far w3 _ _ v HNE2.out.1).trans HS3.out.1, (World.cell?_setCell_far w3 _ _ v HNE2.out.2).trans HS3.out.2⟩)
            clear own3 gr3 at3 sl3 hlc3 hcm3 bel3 hq3
            refine hK.out _ _ (HS3.out) (fun hHeld2 => ?_)
            clear hK K hHeld; have hHeld := hHeld2; clear hHeld2; (try simp only [Act.put, List.getElem_toArray, List.getElem_cons_zero, List.getElem_cons_succ, List.setIfInBounds_toArray, List.set_cons_zero, List.set_cons_succ])
            (refine wpAnyH_take (i := 11) (v := ?_) rfl (by kernel_rfl) (by kernel_rfl) (by kernel_rfl) (fun _ _ _ h => h) (Or.inl ⟨by rfl, ?_⟩) hHeld ?_; rotate_left 1; focus (intro w hSw; (try dsimp only at hSw); go_simp; try with_reducible rfl)); (try simp only [Act.put, List.getElem_toArray, List.getElem_cons_zero, List.getElem_cons_succ, List.setIfInBounds_toArray, List.set_cons_zero, List.set_cons_succ])
            refine wpAnyH_ready (rs := [12]) (by kernel_rfl) (by simp) ?_
            refine AllReadyH.cons rfl (fun K hK => ?_) AllReadyH.nil
            go_simp
            refine hK.out _ _ (HS4.out _) (fun hHeld2 => ?_)
            clear hK K hHeld; have hHeld := hHeld2; clear hHeld2; (try simp only [Act.put, List.getElem_toArray, List.getElem_cons_zero, List.getElem_cons_succ, List.setIfInBounds_toArray, List.set_cons_zero, List.set_cons_succ])
            refine wpAnyH_done (by kernel_rfl) ?_ _
            go_wp2_with fail
            have hsz3 : wo.heap.size ≤ (w3.setCell ⟨bt, t, none⟩ (.slice A3 q3 c3)).heap.size := by
              have h1 := HB1.out.size
              have h2 := BI.out.size
              have h3 := BOJ.out.size
              have h4 := BJA.out.size
              have h5 := B3.out.size
              simp
              omega
            have hwo : w.heap.size ≤ wa.heap.size := by
              have h0 := GR.out.size
              have h1 := HB1.out.size
              have h2 := BI.out.size
              have h3 := BOJ.out.size
              have h4 := BJA.out.size
              omega
            have RF := Lib.hid ((STA.out.put (t := t) (l := lt.take mt ++ [(⟨ok, ol, og, vv⟩ : Cell)] ++ lt.drop mt) B3.out HTT.out SL3.out HC3.out.1 HC3.out.2).same (U' := fun k => U k ∨ (w.heap.size ≤ k ∧ k < (w3.setCell ⟨bt, t, none⟩ (.slice A3 q3 c3)).heap.size)) (fun k hk => hk.elim (HSUB.out _ hsz3 k) (fun e => .inr ⟨Nat.le_trans hwo e.1, by simpa using e.2⟩)) (HSLT.out _ hsz3) (HSN1.out _) (HSN2.out _))
            have GF := Lib.hid (grown_trans (HGRW.out w3 (BI.out.trans ((BOJ.out.trans ((BJA.out.trans (B3.out.mono BJA.out.size)).mono BOJ.out.size)).mono BI.out.size))) (grown_setB w3 ⟨bt, t, none⟩ (.slice A3 q3 c3)))
            go_roundw
            case rel => exact ⟨p0 + 1, q0 + 1, by go_num, by go_num, by omega, by omega, by rw [HSN.out, HP2.out, HCO.out]; exact RF.out, GF.out⟩
            case measure => simp [intOf]; omega
    · obtain rfl : n = p0 := by omega
      have hd : decide ((n : Int) < (n : Int)) = false := by simp
      have hta : l.take n = l := List.take_of_length_le (by rw [← HN.out]; exact Nat.le_refl _)
      rw [hta] at hst
      have ST := Lib.hid hst
      clear hst hgr hta hlt hp
      go_wp2_with fail
      go_ret
      exact ⟨⟨_, rfl⟩, ST.out, GR.out⟩
end Go.Proofs.Ythhpddiicnjmmaa
