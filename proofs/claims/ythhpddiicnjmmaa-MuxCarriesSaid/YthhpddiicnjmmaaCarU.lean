/- Contract of the reference's Fold (qanatref07): changes put one behind the other into a new set of tables. Words for the walk of MuxCarries: where the mux, the replica and what was asked lie; what holds of them behind each transaction. -/
import Derived.Test.YthhpddiicnjmmaaRepC
import Derived.Test.YthhpddiicnjmmaaCarS
import Derived.Test.YthhpddiicnjmmaaHelpRow
import Derived.Test.YthhpddiicnjmmaaMuxD
set_option linter.unusedVariables false
set_option linter.unusedSimpArgs false
set_option maxRecDepth 100000
namespace Go.Proofs.Ythhpddiicnjmmaa
open Go.RowKit

theorem IsSl.txnU {w w' : World} {T : Nat → Prop} {n k : Nat} {A : Option Addr} {l : List Txn} (h : IsSl txnRep w T A n l) (hk : k < n) (hw : ∀ p : Addr, T p.block → w'.cell? p = w.cell? p) :
    ∃ b off x A2 n2 c2 A3 n3 c3, A = some ⟨b, off, none⟩ ∧ T b ∧ l[k]? = some x ∧ (I64 x.lsn ∧ I64 x.kind ∧ I64 x.mark) ∧ w'.cell? ⟨b, off + k * 5, none⟩ = some (.int .i64 x.lsn) ∧ w'.cell? ⟨b, off + k * 5 + 1, none⟩ = some (.int .i64 x.kind) ∧ w'.cell? ⟨b, off + k * 5 + 2, none⟩ = some (.slice A2 n2 c2) ∧ w'.cell? ⟨b, off + k * 5 + 3, none⟩ = some (.slice A3 n3 c3) ∧ w'.cell? ⟨b, off + k * 5 + 4, none⟩ = some (.int .i64 x.mark) ∧ IsSl chgRep w' T A2 n2 x.changes ∧ n2 ≤ c2 ∧ c2 ≤ maxLen ∧ IsSl strRep w' T A3 n3 x.signals ∧ n3 ≤ c3 ∧ c3 ≤ maxLen := by
  obtain ⟨b, off, x, cs, rfl, hb, hx, ⟨v2, v3, rfl, i0, i1, i2, ⟨A2, n2, c2, h2, s2, l2, m2⟩, ⟨A3, n3, c3, h3, s3, l3, m3⟩⟩, hc⟩ := h.at_ hk
  obtain rfl : v2 = .slice A2 n2 c2 := by simpa using h2
  obtain rfl : v3 = .slice A3 n3 c3 := by simpa using h3
  exact ⟨b, off, x, A2, n2, c2, A3, n3, c3, rfl, hb, hx, ⟨i0, i1, i2⟩, (hw _ hb).trans (hc 0 _ rfl), (hw _ hb).trans (hc 1 _ rfl), (hw _ hb).trans (hc 2 _ rfl), (hw _ hb).trans (hc 3 _ rfl), (hw _ hb).trans (hc 4 _ rfl), s2.keep hw, l2, m2, s3.keep hw, l3, m3⟩

theorem refheld_any (n : Nat) (ni : Int) (hni : ni = (n : Int)) (w : World) :
    Calls Try.prog 87 #[.int .i64 ni, .int .i64 ni] w fun e w' => e = .returned (.int .i64 ni) ∧ w = w' := by
  subst hni
  have h1 : decide ((n : Int) < (n : Int)) = false := by simp
  have h2 : decide ((n : Int) < 0) = false := decide_eq_false (by omega)
  have h3 : min (n : Int) (n : Int) = (n : Int) := by omega
  have h4 : max (0 : Int) (n : Int) = (n : Int) := by omega
  go_enter Try.func87, Try.ntmps87
  go_wp2
  go_ret
  exact ⟨by simp [h1, h2, h3, h4], rfl⟩

theorem flat_len (K : Nat) : ∀ (l : List Txn), (∀ t ∈ l, t.changes.length ≤ K) → (l.flatMap (·.changes)).length ≤ K * l.length
  | [], _ => by simp
  | x :: t, h => by
    have h1 := h x (List.mem_cons_self ..)
    have h2 := flat_len K t (fun y hy => h y (List.mem_cons_of_mem _ hy))
    rw [List.flatMap_cons, List.length_append, List.length_cons, Nat.mul_add]
    omega
theorem flat_take_len (K p : Nat) (l : List Txn) (h : ∀ t ∈ l, t.changes.length ≤ K) (hp : p ≤ l.length) : ((l.take p).flatMap (·.changes)).length ≤ K * p := by
  have := flat_len K (l.take p) (fun t ht => h t (List.mem_of_mem_take ht))
  rw [List.length_take, Nat.min_eq_left hp] at this
  exact this

set_option maxHeartbeats 8000000 in
theorem reffold_any (N : Nat) (h1 : 1 ≤ N) (h2 : N ≤ 8) (A : Option Addr) (n : Nat) (ni : Int) (hni : ni = (n : Int)) (c : Nat) (l : List Txn) (w : World) (V : Nat → Prop) (hV : ∀ k, V k → k < w.heap.size) (hl : IsSl txnRep w V A n l) (hn : n ≤ 100) (hcl : ∀ t ∈ l, t.changes.length ≤ 100 ∧ ∀ c ∈ t.changes, 0 ≤ c.table ∧ c.table < (N : Int)) :
    Calls Try.prog 35 #[.int .i64 (N : Int), .slice A n c, .int .i64 ni] w fun e w' => ∃ U gs bt, e = .returned (.slice (some ⟨bt, 0, none⟩) N N) ∧ SetAt w' U gs bt (setAll (List.replicate N []) (l.flatMap (·.changes))) ∧ w.heap.size ≤ gs ∧ w.heap.size ≤ bt ∧ (∀ k, U k → w.heap.size ≤ k) ∧ Below w.heap.size w w' := by
  subst hni
  have HL := Lib.hid hl
  have HN := Lib.hid hl.len
  have HV := Lib.hid hV
  have HC := Lib.hid hcl
  clear hl hV hcl
  go_enter Try.func35, Try.ntmps35
  go_wp2_with (first
    | (go_at_call 86; (with_reducible refine (refnewset_any N h1 h2 w).mono ?_); rintro e w1 ⟨gs, bt, rfl, st1, hgs, hbt, bel1⟩; have ST1 := Lib.hid st1; have B1 := Lib.hid bel1; have hgs1 : gs < w1.heap.size := st1.lt.1; have hbt1 : bt < w1.heap.size := st1.lt.2; have HNE := Lib.hid (show gs ≠ bt from st1.ng.2.2); clear st1 bel1)
    | fail)
  have hs1 := B1.out.size
  have KV := Lib.hid (show ∀ ww : World, w1.grownBy ww (some bt) → ∀ p : Addr, V p.block → ww.cell? p = w.cell? p from fun ww g p hp => (World.cell?_of_block (g.block p.block (by have := HV.out _ hp; omega) (fun e => by injection e with e; have := HV.out _ hp; omega))).trans (B1.out.cell (HV.out _ hp)))
  go_loopw [8] (fun iv wr => ∃ p : Nat, iv = .int .i64 p ∧ p ≤ n ∧ SetAt wr (fun k => w1.heap.size ≤ k ∧ k < wr.heap.size) gs bt (setAll (List.replicate N []) ((l.take p).flatMap (·.changes))) ∧ w1.grownBy wr (some bt)) (fun iv _ => n - (intOf iv).toNat)
  case atStart => exact ⟨0, rfl, Nat.zero_le _, ST1.out.same (fun k hk => hk.elim) (fun k hk => hk.2) (by omega) (by omega), World.grownBy.refl w1 _⟩
  case round =>
    obtain ⟨wo, rfl⟩ : ∃ q : World, q = wr := ⟨_, rfl⟩
    obtain ⟨p, rfl, hp, hst, hgr⟩ := hrel
    have ST := Lib.hid hst
    have GR := Lib.hid hgr
    clear hst hgr
    by_cases hlt : p < n
    case neg =>
      obtain rfl : n = p := by omega
      have hd : decide ((n : Int) < (n : Int)) = false := by simp
      have HTA := Lib.hid (show l.take n = l from List.take_of_length_le (by rw [← HN.out]; exact Nat.le_refl _))
      have c0 := ST.out.blk.1 0 _ rfl
      rw [setAll_len, List.length_replicate] at c0
      clear hlt hp
      go_wp2_with (first
        | (go_at_call 87; (with_reducible refine (refheld_any n (n : Int) rfl wo).mono ?_); rintro e w9 ⟨rfl, rfl⟩)
        | fail)
      go_ret
      refine ⟨fun k => w1.heap.size ≤ k ∧ k < wo.heap.size, gs, bt, rfl, ?_, hgs, hbt, fun k hk => Nat.le_trans hs1 hk.1, B1.out.grown GR.out hs1 (fun k hk => by injection hk with hk; omega)⟩
      have := ST.out
      rw [HTA.out] at this
      exact this
    case pos =>
      have hd : decide ((p : Int) < (n : Int)) = true := decide_eq_true (by omega)
      have hpi : (p : Int) < (n : Int) := by omega
      obtain ⟨b0, off, x, A2, n2, c2, A3, n3, c3, rfl, hb, hx, -, q0, q1, q2, q3, q4, sc, lc, mc, -, -, -⟩ := HL.out.txnU (w' := w) hlt (fun _ _ => rfl)
      have HB := Lib.hid hb
      have Q2 := Lib.hid q2
      have SC := Lib.hid sc
      have HX := Lib.hid hx
      have hn2 : n2 ≤ 100 := by rw [sc.len]; exact (HC.out x (List.mem_of_getElem? hx)).1
      have HXC := Lib.hid (HC.out x (List.mem_of_getElem? hx)).2
      have HSN := Lib.hid (show (l.take (p + 1)).flatMap (·.changes) = (l.take p).flatMap (·.changes) ++ x.changes by rw [take_snoc hx, List.flatMap_append]; simp)
      have HDL := Lib.hid (show ((l.take p).flatMap (·.changes)).length ≤ 10000 from Nat.le_trans (flat_take_len 100 p l (fun t ht => (HC.out t ht).1) (by rw [← HN.out]; omega)) (by omega))
      obtain ⟨D, hD⟩ : ∃ D, D = (l.take p).flatMap (·.changes) := ⟨_, rfl⟩
      rw [← hD] at ST HSN HDL
      clear hD q0 q1 q2 q3 q4 sc hx hb
      go_wp2_with (first
        | (go_at_call 87; (with_reducible refine (refheld_any n (n : Int) rfl wo).mono ?_); rintro e w9 ⟨rfl, rfl⟩)
        | fail)
      go_loopw [9] (fun jv wr => ∃ q : Nat, jv = .int .i64 q ∧ q ≤ n2 ∧ SetAt wr (fun k => w1.heap.size ≤ k ∧ k < wr.heap.size) gs bt (setAll (List.replicate N []) (D ++ x.changes.take q)) ∧ w1.grownBy wr (some bt)) (fun jv _ => n2 - (intOf jv).toNat)
      case atStart => exact ⟨0, rfl, Nat.zero_le _, by rw [List.take_zero, List.append_nil]; exact ST.out, GR.out⟩
      case round =>
        obtain ⟨wi, rfl⟩ : ∃ q : World, q = wr := ⟨_, rfl⟩
        obtain ⟨q, rfl, hq, hst, hgr⟩ := hrel
        have SI := Lib.hid hst
        have GI := Lib.hid hgr
        clear hst hgr
        have q2 := (KV.out wi GI.out _ HB.out).trans Q2.out
        by_cases hqt : q < n2
        case neg =>
          obtain rfl : n2 = q := by omega
          have hdq : decide ((n2 : Int) < (n2 : Int)) = false := by simp
          have HTQ := Lib.hid (show x.changes.take n2 = x.changes from List.take_of_length_le (by rw [← SC.out.len]; exact Nat.le_refl _))
          rw [HTQ.out] at SI
          clear hqt hq HTQ
          go_wp2_with fail
          go_roundw
          case rel => exact ⟨p + 1, by go_num, by omega, by rw [HSN.out]; exact SI.out, GI.out⟩
          case measure => simp [intOf]; omega
        case pos =>
          have hdq : decide ((q : Int) < (n2 : Int)) = true := decide_eq_true (by omega)
          have hqi : (q : Int) < (n2 : Int) := by omega
          obtain ⟨bc, oc, cc, ck, cg, cv, rfl, hbc, hcx, hcw, e0, e1, e2, e3⟩ := SC.out.chgc (w' := wi) hqt (fun r hr => KV.out wi GI.out _ hr)
          have HI := HXC.out ⟨cc, ck, cg, cv⟩ (List.mem_of_getElem? hcx)
          have HTQ := Lib.hid (show D ++ x.changes.take (q + 1) = (D ++ x.changes.take q) ++ [⟨cc, ck, cg, cv⟩] by rw [take_snoc hcx, List.append_assoc])
          have HLEN := Lib.hid (show (D ++ x.changes.take q).length ≤ 10100 by rw [List.length_append, List.length_take]; have := HDL.out; omega)
          obtain ⟨DD, hDD⟩ : ∃ DD, DD = D ++ x.changes.take q := ⟨_, rfl⟩
          rw [← hDD] at SI HTQ HLEN
          have HTL := Lib.hid (show (setAll (List.replicate N []) DD).length = N by rw [setAll_len, List.length_replicate])
          have HSM := Lib.hid (show ∀ y ∈ setAll (List.replicate N []) DD, y.length + 1 ≤ 100000 by
            intro y hy
            have := setAll_small DD (List.replicate N []) 0 (fun z hz => by rw [List.eq_of_mem_replicate hz]; exact Nat.le_refl _) y hy
            have := HLEN.out
            omega)
          have HAP := Lib.hid (show setAll (setAll (List.replicate N []) DD) [⟨cc, ck, cg, cv⟩] = setAll (List.replicate N []) (DD ++ [⟨cc, ck, cg, cv⟩]) by unfold setAll; rw [List.foldl_append])
          obtain ⟨tb, htb⟩ : ∃ tb, tb = setAll (List.replicate N []) DD := ⟨_, rfl⟩
          rw [← htb] at SI HTL HSM HAP
          have HIN := Lib.hid (show inSet tb cc = true by unfold inSet; rw [HTL.out]; exact decide_eq_true HI)
          have HTM := Lib.hid (show tb.length ≤ 100000 by rw [HTL.out]; omega)
          have HWF := Lib.hid hcw
          clear hDD htb HI hcw hcx
          obtain ⟨W4, hW4⟩ : ∃ W4, W4 = wi.alloc (.cells #[.int .i64 cc, .int .i64 ck, .bool cg, .string cv] 162) := ⟨_, rfl⟩
          obtain ⟨gb, hgb⟩ : ∃ gb, gb = W4.heap.size := ⟨_, rfl⟩
          obtain ⟨W5, hW5⟩ : ∃ W5, W5 = W4.alloc (.cells #[.int .i64 cc, .int .i64 ck, .bool cg, .string cv] 162) := ⟨_, rfl⟩
          have B4 := Lib.hid (show Below wi.heap.size wi W4 by rw [hW4]; exact (Below.refl _ _).alloc (Nat.le_refl _) _)
          have B5 := Lib.hid (show Below W4.heap.size W4 W5 by rw [hW5]; exact (Below.refl _ _).alloc (Nat.le_refl _) _)
          have B45 := Lib.hid (B4.out.trans (B5.out.mono B4.out.size))
          have BG := Lib.hid (show Blk W5 gb [.int .i64 cc, .int .i64 ck, .bool cg, .string cv] by rw [hW5, hgb]; exact Blk.new rfl rfl)
          have S4 := Lib.hid (SI.out.below B4.out)
          have S5 := Lib.hid (SI.out.below B45.out)
          have hz4 := B4.out.size
          have hz5 := B5.out.size
          have hgr1 := GI.out.size
          have hgbb : bt ≠ gb := by omega
          have hW4c : Blk W4 wi.heap.size [.int .i64 cc, .int .i64 ck, .bool cg, .string cv] := by rw [hW4]; exact Blk.new rfl rfl
          have w0 := hW4c.1 0 _ rfl
          have w1' := hW4c.1 1 _ rfl
          have w2 := hW4c.1 2 _ rfl
          have w3 := hW4c.1 3 _ rfl
          have GI5 := Lib.hid (show w1.grownBy W5 (some bt) from grown_trans GI.out (grown_of_below B45.out _))
          have LS := Lib.hid (show IsSl chgRep W5 (fun k => k = gb) (some ⟨gb, 0, none⟩) 1 [⟨cc, ck, cg, cv⟩] from IsSl.oneC BG.out rfl ⟨rfl, HWF.out⟩)
          have HGB := Lib.hid (show gb < W5.heap.size from BG.out.lt)
          have H4 := Lib.hid hW4
          have H5 := Lib.hid hW5
          have HG := Lib.hid hgb
          clear hW4 hW5 hgb hW4c
          go_wp2_with (first
            | (go_at_call 88; rw [← H4.out]; (with_reducible refine (refsetis_any gs bt _ tb cc W4 S4.out HTM.out).mono ?_); rintro e w9 ⟨rfl, rfl⟩; rw [HIN.out])
            | (go_at_call 89; rw [← H5.out, ← HG.out]; (with_reducible refine (refapply_any gs bt _ tb (some ⟨gb, 0, none⟩) 1 1 [⟨cc, ck, cg, cv⟩] W5 S5.out (fun k => k = gb) (fun k hk => by rw [hk]; exact HGB.out) hgbb LS.out (fun c hc => by rw [List.mem_singleton.1 hc]; exact HIN.out) HSM.out HTM.out (by omega)).mono ?_); rintro e w6 ⟨rfl, st6, gr6⟩; have S6 := Lib.hid st6; have G6 := Lib.hid gr6; clear st6 gr6)
            | fail)
          go_roundw
          case rel =>
            have hz6 := G6.out.size
            refine ⟨q + 1, by go_num, by omega, ?_, grown_trans GI5.out G6.out⟩
            rw [HTQ.out, ← HAP.out]
            exact S6.out.same (fun k hk => by rcases hk with hk | hk <;> exact ⟨by omega, by omega⟩) (fun k hk => hk.2) (by omega) (by omega)
          case measure => simp [intOf]; omega

/-- A table's rows behind changes. -/
theorem setAll_at (k : Nat) : ∀ (l : List Chg) (tabs : List (List Row)), (∀ c ∈ l, 0 ≤ c.table) → (setAll tabs l)[k]? = (tabs[k]?).map (fun L => allK L (ofT k l))
  | [], tabs, _ => by cases h : tabs[k]? <;> simp [setAll, ofT, allK, h]
  | c :: t, tabs, h => by
    have h0 := h c (List.mem_cons_self ..)
    show (setAll (setPut tabs c) t)[k]? = _
    rw [setAll_at k t _ (fun q hq => h q (List.mem_cons_of_mem _ hq))]
    unfold setPut
    dsimp only
    by_cases e : c.table.toNat = k
    · have e2 : (c.table == (k : Int)) = true := by simp; omega
      rw [e, List.getElem?_set]
      simp only [if_true]
      by_cases hk : k < tabs.length
      · rw [if_pos hk, List.getElem?_eq_getElem hk, Option.getD_some, Option.map_some, Option.map_some]
        unfold ofT
        rw [List.filter_cons, if_pos e2]
        rfl
      · rw [if_neg hk, List.getElem?_eq_none (by omega)]
        rfl
    · have e2 : (c.table == (k : Int)) = false := by simp; omega
      rw [List.getElem?_set_ne e]
      unfold ofT
      rw [List.filter_cons, if_neg (by rw [e2]; simp)]
end Go.Proofs.Ythhpddiicnjmmaa

set_option linter.unusedVariables false
set_option linter.unusedSimpArgs false
namespace Go.Proofs.Ythhpddiicnjmmaa
open Go.RowKit

/-! ### Where all lies -/
def ints (a : List Int) : List Value := a.map (fun v => .int .i64 v)
structure CarInv (wB : World) (s3 s4 s5 s6 gm g gs bt ga : Nat) (At : Option Addr) (nt : Nat) (T : List Txn) (wr : World) (S U : Nat → Prop) (x : Mx) (a : List Int) (tabs : List (List Cell)) : Prop where
  own : MuxOwn wr S gm g x
  hS : ∀ q, S q → q < wr.heap.size
  old : ∀ q, q < wB.heap.size → S q
  mid : ∀ q, s3 ≤ q → q < s6 → S q
  rep : RepAt wr U gs bt tabs
  hU : ∀ q, U q → S q ∧ s6 ≤ q
  ask : Blk wr ga (ints a)
  bel : Below wB.heap.size wB wr
  txn : IsSl txnRep wr (fun q => s3 ≤ q ∧ q < s4) At nt T
  ord : wB.heap.size ≤ s3 ∧ s3 ≤ s4 ∧ (s4 ≤ gs ∧ gs < s5) ∧ (s4 ≤ bt ∧ bt < s5) ∧ (s5 ≤ ga ∧ ga < s6) ∧ s6 ≤ wr.heap.size
section
variable {wB wr w' : World} {s3 s4 s5 s6 gm g gs bt ga nt : Nat} {At : Option Addr} {T : List Txn} {S U : Nat → Prop} {x y : Mx} {a : List Int} {tabs : List (List Cell)}
theorem CarInv.inS (h : CarInv wB s3 s4 s5 s6 gm g gs bt ga At nt T wr S U x a tabs) : S gs ∧ S bt ∧ S ga ∧ (∀ q, s3 ≤ q ∧ q < s4 → S q) := by
  obtain ⟨o1, o2, o3, o4, o5, o6⟩ := h.ord
  exact ⟨h.mid _ (by omega) (by omega), h.mid _ (by omega) (by omega), h.mid _ (by omega) (by omega), fun q hq => h.mid _ hq.1 (by omega)⟩
theorem CarInv.after (h : CarInv wB s3 s4 s5 s6 gm g gs bt ga At nt T wr S U x a tabs) (hb : Below wr.heap.size wr w') : CarInv wB s3 s4 s5 s6 gm g gs bt ga At nt T w' S U x a tabs := by
  obtain ⟨o1, o2, o3, o4, o5, o6⟩ := h.ord
  exact ⟨h.own.below hb, fun q hq => Nat.lt_of_lt_of_le (h.hS q hq) hb.size, h.old, h.mid, h.rep.below hb, h.hU, h.ask.after hb, h.bel.trans (hb.mono h.bel.size), h.txn.keep (fun p hp => hb.cell (h.hS _ (h.inS.2.2.2 _ hp))), o1, o2, o3, o4, o5, Nat.le_trans o6 hb.size⟩
theorem CarInv.take (h : CarInv wB s3 s4 s5 s6 gm g gs bt ga At nt T wr S U x a tabs) (m : MuxOwn w' S gm g y) (r : Rest S wr w') : CarInv wB s3 s4 s5 s6 gm g gs bt ga At nt T w' S U y a tabs := by
  obtain ⟨o1, o2, o3, o4, o5, o6⟩ := h.ord
  exact ⟨m, fun q hq => Nat.lt_of_lt_of_le (h.hS q hq) r.size, h.old, h.mid, h.rep.rest r (fun q hq => (h.hU q hq).1) h.inS.1 h.inS.2.1, h.hU, h.ask.rest r h.inS.2.2.1, h.bel.trans (r.toBelow h.old), h.txn.rest r h.inS.2.2.2, o1, o2, o3, o4, o5, Nat.le_trans o6 r.size⟩
theorem CarInv.store (h : CarInv wB s3 s4 s5 s6 gm g gs bt ga At nt T wr S U x a tabs) (t : Nat) (ht : t < a.length) (v : Int) : CarInv wB s3 s4 s5 s6 gm g gs bt ga At nt T (wr.setCell ⟨ga, t, none⟩ (.int .i64 v)) S U x (a.set t v) tabs := by
  obtain ⟨o1, o2, o3, o4, o5, o6⟩ := h.ord
  have r : Rest (fun q => q ≠ ga) wr (wr.setCell ⟨ga, t, none⟩ (.int .i64 v)) := (Rest.refl _ wr).set (by simp) t _
  exact ⟨h.own.set h.inS.2.2.1 t _, fun q hq => Nat.lt_of_lt_of_le (h.hS q hq) r.size, h.old, h.mid, h.rep.rest r (fun q hq => by have := (h.hU q hq).2; show q ≠ ga; omega) (show gs ≠ ga by omega) (show bt ≠ ga by omega), h.hU,
    h.ask.put (by unfold ints; rw [List.length_map]; exact ht) _ (by unfold ints; rw [List.map_set]), h.bel.setCell (show wB.heap.size ≤ ga by omega) _, h.txn.rest r (fun q hq => show q ≠ ga by omega), o1, o2, o3, o4, o5, Nat.le_trans o6 r.size⟩
theorem CarInv.put {l : List Opr} {e : Ending} (h : CarInv wB s3 s4 s5 s6 gm g gs bt ga At nt T wr S U x a tabs) (p : RepPost wr U gs bt tabs l e w') :
    CarInv wB s3 s4 s5 s6 gm g gs bt ga At nt T w' (fun k => S k ∨ (wr.heap.size ≤ k ∧ k < w'.heap.size)) (fun k => U k ∨ (wr.heap.size ≤ k ∧ k < w'.heap.size)) x a (repAll tabs l) := by
  obtain ⟨o1, o2, o3, o4, o5, o6⟩ := h.ord
  obtain ⟨_, rp, gr⟩ := p
  refine ⟨(h.own.sets (S' := fun k => S k ∨ (wr.heap.size ≤ k ∧ k < w'.heap.size)) (fun k hk => hk.elim .inl (fun h => .inr h.1))).grown gr (fun k hk => by injection hk with hk; exact hk ▸ .inl h.inS.2.1), fun q hq => hq.elim (fun hq => Nat.lt_of_lt_of_le (h.hS q hq) gr.size) (·.2), fun q hq => .inl (h.old q hq), fun q h1 h2 => .inl (h.mid q h1 h2), rp, fun q hq => hq.elim (fun hq => ⟨.inl (h.hU q hq).1, (h.hU q hq).2⟩) (fun hq => ⟨.inr hq, by omega⟩),
    h.ask.grown gr (fun k hk => by injection hk with hk; omega), h.bel.grown gr h.bel.size (fun k hk => by injection hk with hk; omega), h.txn.keep (fun q hq => World.cell?_of_block (gr.block _ (h.hS _ (h.inS.2.2.2 _ hq)) (fun e => by injection e with e; have := hq.2; omega))), o1, o2, o3, o4, o5, Nat.le_trans o6 gr.size⟩
end

/-! ### What holds behind each transaction -/
structure CarPl (N : Nat) (late : Int) (T : List Txn) (i : Nat) (x : Mx) (a : List Int) (tabs : List (List Cell)) : Prop where
  asks : Asks N x a i
  st : x.win.state = 0
  la : x.late = late
  at_ : x.at_ = i
  fine : x.Fine
  len : tabs.length = N
  holds : Holds i tabs (carF T i late a)
  small : ∀ l ∈ tabs, l.length ≤ 16 * i

theorem repPut_small2 (tabs : List (List Cell)) (o : Opr) (b : Nat) (h : ∀ l ∈ tabs, l.length ≤ b) : ∀ l ∈ repPut tabs o, l.length ≤ b + 1 := repPut_small tabs o b h
theorem repAll_small2 : ∀ (l : List Opr) (tabs : List (List Cell)) (b : Nat), (∀ x ∈ tabs, x.length ≤ b) → ∀ x ∈ repAll tabs l, x.length ≤ b + l.length
  | [], _, _, h => h
  | o :: t, tabs, b, h => by
    intro x hx
    have := repAll_small2 t (repPut tabs o) (b + 1) (repPut_small tabs o b h) x hx
    simp; omega

theorem may_len16 {t : Txn} (h : mayTxn t = true) : t.changes.length ≤ 16 ∧ t.signals.length ≤ 2 := by
  unfold mayTxn at h
  rw [Bool.and_eq_true] at h
  have h2 := h.2
  split at h2
  · unfold mayCli at h2
    rw [Bool.and_eq_true] at h2
    have := of_decide_eq_true h2.1
    omega
  · have := of_decide_eq_true h2
    omega

theorem ops_mem {x : Mx} {lsn : Int} {l : List Chg} {o : Opr} (h : o ∈ x.ops lsn l) : o.lsn = lsn ∧ x.capt o.table = true ∧ ∃ c ∈ l, c.table = o.table := by
  unfold Mx.ops at h
  obtain ⟨c, hc, rfl⟩ := List.mem_map.1 h
  obtain ⟨h1, h2⟩ := List.mem_filter.1 hc
  exact ⟨rfl, h2, c, h1, rfl⟩

theorem car_step {N i : Nat} {late : Int} {T : List Txn} {x : Mx} {a : List Int} {tabs : List (List Cell)} {t : Txn} (h : CarPl N late T i x a tabs) (hi : i < 40) (ht : T[i]? = some t) (hm : mayTxn t = true) (hl : t.lsn = (i : Int) + 1) (hk : t.kind ≠ 1 → t.changes = [] ∧ t.signals = []) (hin : ∀ c ∈ t.changes, 0 ≤ c.table ∧ c.table < (N : Int)) :
    x.takeE t = 0 ∧ (x.takeI t).lsn = (i : Int) + 1 ∧ (x.takeM t).at_ = (i : Int) + 1 ∧ (∀ o ∈ (x.takeI t).ops, o.lsn = (i : Int) + 1 ∧ 0 ≤ o.table ∧ o.table < (N : Int) ∧ (x.takeM t).capt o.table = true) ∧ (x.takeI t).ops.length ≤ 16 ∧
    CarPl N late T (i + 1) (x.takeM t) (askAll N ((i : Int) + 1) a t.signals) (repAll tabs (x.takeI t).ops) := by
  obtain ⟨e1, e2, e3, e4, e5, e6, e7, e8⟩ := idle_take hm (by rw [h.at_]; exact hl) h.st hk
  rw [hl] at e2 e3 e4 e8
  have ha0 : Asks N (x.setAt ((i : Int) + 1)) a ((i : Int) + 1) := (h.asks.more (by omega)).same rfl rfl
  have hA := Asks.all (n := N) (a := a) (i := (i : Int) + 1) (by omega) (by omega) t.signals _ ha0
  obtain ⟨X, hX⟩ : ∃ X, X = ((x.setAt ((i : Int) + 1)).accs ((i : Int) + 1) t.signals).1 := ⟨_, rfl⟩
  have hk1 := accs_keep (x.setAt ((i : Int) + 1)) ((i : Int) + 1) t.signals
  rw [← hX] at hA e3 e4 hk1
  have hXl : X.late = x.late := hk1.2.2.2
  have hcap : ∀ q, (x.takeM t).capt q = X.capt q := by
    intro q
    unfold Mx.capt
    rw [e4, e5, e6, hXl, show X.tables = x.tables from hk1.1]
  have hops : ∀ o ∈ (x.takeI t).ops, o.lsn = (i : Int) + 1 ∧ 0 ≤ o.table ∧ o.table < (N : Int) ∧ (x.takeM t).capt o.table = true := by
    rw [e3]
    intro o ho
    obtain ⟨k1, k2, c, hc, k3⟩ := ops_mem ho
    have := hin c hc
    exact ⟨k1, by omega, by omega, by rw [hcap]; exact k2⟩
  have hlen : (x.takeI t).ops.length ≤ 16 := by
    rw [e3]
    unfold Mx.ops
    rw [List.length_map]
    exact Nat.le_trans (List.length_filter_le _ _) (may_len16 hm).1
  have h0 : ((i + 1 : Nat) : Int) = (i : Int) + 1 := by push_cast; rfl
  refine ⟨e1, e2, e8, hops, hlen, ?_⟩
  rw [← h0] at hA e3 e8
  refine ⟨by rw [← h0]; exact hA.same (e5.trans hk1.1.symm) e4, by rw [e7]; exact h.st, e6.trans h.la, e8, h.fine.take t, by rw [repAll_len, h.len], ?_, fun l hl => ?_⟩
  · have h1 := (h.holds.le (m' := ((i + 1 : Nat) : Int)) (by omega))
    have h2 := Holds.all (x.takeI t).ops tabs _ (fun o ho => by rw [h0]; exact (hops o ho).1) h1
    refine h2.eq (fun k hk => ?_)
    rw [repAll_len, h.len] at hk
    rw [e3]
    unfold Mx.ops
    rw [step_ops k ((i + 1 : Nat) : Int) _ _ (fun c hc => (hin c (List.mem_filter.1 hc).1).1)]
    exact carF_step ht (by rw [h.asks.len]; exact hk) (fun v hv => h.asks.val v hv) (by rw [← h0]; exact hA) (hXl.trans h.la)
  · have := repAll_small2 (x.takeI t).ops tabs (16 * i) h.small l hl
    omega

/-- At the end. -/
theorem car_end {N : Nat} {late : Int} {T : List Txn} {x : Mx} {a : List Int} {tabs : List (List Cell)} (h : CarPl N late T T.length x a tabs) (hT : ∀ t ∈ T, ∀ c ∈ t.changes, 0 ≤ c.table ∧ c.table < (N : Int)) (k : Nat) (hk : k < N) (v : Int) (hv : a[k]? = some v) (f : Int) (hf : f = if lateB late (k : Int) = true then v else 1) (want : List Txn) (hw : want = if 0 < f ∧ T ≠ [] then T.drop (f - 1).toNat else []) :
    x.capt (k : Int) = decide (0 < f) ∧ (0 ≤ f ∧ f ≤ T.length ∨ f = 1) ∧ (setAll (List.replicate N []) (want.flatMap (·.changes)))[k]? = some (rowsC ((tabs[k]?).getD [])) := by
  have hval := h.asks.val v (List.mem_of_getElem? hv)
  have hcap := h.asks.capt k v hv
  rw [h.la] at hcap
  have hfa : fromA late a k = f := by unfold fromA; rw [hv, Option.getD_some, hf]
  have hkt : k < tabs.length := by rw [h.len]; exact hk
  have hh := (h.holds k tabs[k] (List.getElem?_eq_getElem hkt)).2.2
  refine ⟨?_, ?_, ?_⟩
  · rw [hcap, hf]
    cases lateB late (k : Int) with
    | true =>
      rw [if_pos rfl]
      by_cases hz : v = 0
      · subst hz; rfl
      · rw [decide_eq_true (by omega)]; simpa using hz
    | false => rw [if_neg (by simp)]; simp
  · rw [hf]
    split
    · left; exact hval
    · right; rfl
  · have hin : ∀ c ∈ want.flatMap (·.changes), 0 ≤ c.table := by
      intro c hc
      obtain ⟨t, ht, hct⟩ := List.mem_flatMap.1 hc
      rw [hw] at ht
      split at ht
      · exact (hT t (List.mem_of_mem_drop ht) c hct).1
      · cases ht
    rw [setAll_at k _ _ hin, List.getElem?_replicate, if_pos hk, Option.map_some, List.getElem?_eq_getElem hkt, Option.getD_some, hh]
    unfold carF
    rw [hfa, List.take_of_length_le (Nat.le_refl _), hw]
    by_cases hz : f = 0
    · rw [if_pos hz, if_neg (by omega)]; rfl
    · have hf0 : 0 < f := by
        rw [hf] at hz ⊢
        split <;> rename_i hb
        · rw [if_pos hb] at hz; omega
        · decide
      rw [if_neg hz]
      by_cases hne : T = []
      · subst hne; rw [if_neg (by simp)]; simp [ofT, allK]
      · rw [if_pos ⟨hf0, hne⟩]
theorem askAll_len (N : Nat) (i : Int) : ∀ (l : List ByteArray) (a : List Int), (askAll N i a l).length = a.length
  | [], _ => rfl
  | s :: t, a => (askAll_len N i t (ask1 N i a s)).trans (ask1_len _ _ _ _)
/-- At the start. -/
theorem car_new (N : Nat) (late : Int) (T : List Txn) (x : Mx) (hN : N ≤ 8) (ht : x.tables = (N : Int)) (hl : x.late = late) (hr : x.reqs = []) (ha : x.at_ = 0) (hs : x.win.state = 0) (hf : x.Fine) : CarPl N late T 0 x (List.replicate N 0) (List.replicate N []) := by
  have hz : ∀ (t : Nat) (v : Int), (List.replicate N (0 : Int))[t]? = some v → v = 0 := fun t v hv => List.eq_of_mem_replicate (List.mem_of_getElem? hv)
  refine ⟨⟨by simp, hN, ht, by rw [hr]; rfl, ?_, ?_, ?_, ?_, ?_⟩, hs, hl, ha, hf, by simp, ?_, ?_⟩
  · rw [hr]; intro r h; cases h
  · intro t v hv; rw [hr, hz t v hv]; rfl
  · rw [hr]; symm; rw [List.countP_eq_zero.2 (fun v hv => by rw [List.eq_of_mem_replicate hv]; simp)]; rfl
  · rw [hr]; exact Int.le_refl _
  · intro v hv; rw [List.eq_of_mem_replicate hv]; exact ⟨Int.le_refl _, Int.le_refl _⟩
  · intro k l hl
    obtain ⟨rfl, _⟩ := nil_tab hl
    refine ⟨List.Pairwise.nil, ?_, ?_⟩
    · intro c hc; cases hc
    · unfold carF
      rw [List.take_zero, List.drop_nil]
      split <;> rfl
  · intro l hl; rw [List.eq_of_mem_replicate hl]; exact Nat.le_refl _
end Go.Proofs.Ythhpddiicnjmmaa
