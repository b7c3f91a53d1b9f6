/- Contracts of the reference's requests: MayReqs, Accept, Open. -/
import Derived.Test.YthhpddiicnjmmaaReqC
set_option maxRecDepth 100000
namespace Go.Proofs.Ythhpddiicnjmmaa
open Go.RowKit

theorem clash_take_succ {pre : List Req} {q : Nat} {y : Req} {t : Int} (h : pre[q]? = some y) : clash (pre.take (q + 1)) t = (clash (pre.take q) t || (decide (y.table = t) && !y.done)) := by
  have hq : q < pre.length := (List.getElem?_eq_some_iff.1 h).1
  rw [List.getElem?_eq_getElem hq] at h
  rw [List.take_succ_eq_append_getElem hq, clash_snoc, Option.some.inj h]

theorem clash_hit {pre : List Req} {q : Nat} {y : Req} {t : Int} (h : pre[q]? = some y) (ht : y.table = t) (hd : y.done = false) : clash pre t = true := by
  unfold clash
  rw [List.any_eq_true]
  exact ⟨y, List.mem_of_getElem? h, by simp [ht, hd]⟩

theorem aheadOf_take {l : List Req} {k : Nat} {y : Req} (h : l[k]? = some y) : aheadOf (l.take (k + 1)) = y.at_ := by
  have hk : k < l.length := (List.getElem?_eq_some_iff.1 h).1
  rw [List.getElem?_eq_getElem hk] at h
  rw [List.take_succ_eq_append_getElem hk, aheadOf_snoc, Option.some.inj h]

/-- What a round of MayReqs reads. -/
structure ReqCells (w : World) (g o : Nat) (x : Req) : Prop where
  c0 : w.cell? ⟨g, o, none⟩ = some (.int .i64 x.id)
  c1 : w.cell? ⟨g, o + 1, none⟩ = some (.int .i64 x.table)
  c2 : w.cell? ⟨g, o + 2, none⟩ = some (.int .i64 x.weight)
  c3 : w.cell? ⟨g, o + 3, none⟩ = some (.int .i64 x.at_)
  c4 : w.cell? ⟨g, o + 4, none⟩ = some (.int .i64 x.cursor)
  c5 : w.cell? ⟨g, o + 5, none⟩ = some (.int .i64 x.chunks)
  c6 : w.cell? ⟨g, o + 6, none⟩ = some (.bool x.done)

theorem ReqCells.of {w w' : World} {S : Nat → Prop} {b off n k : Nat} {l : List Req} {x : Req} (h : IsSl reqRep w S (some ⟨b, off, none⟩) n l) (hx : l[k]? = some x) (hk : ∀ p : Addr, S p.block → w'.cell? p = w.cell? p) : ReqCells w' b (off + k * 7) x ∧ x.wf ∧ S b := by
  obtain ⟨cs, hS, ⟨rfl, hwf⟩, hc⟩ := req_field h hx
  have hcc : ∀ (j : Nat) (u : Value), x.cells[j]? = some u → w'.cell? ⟨b, off + k * 7 + j, none⟩ = some u := fun j u hu => (hk ⟨b, off + k * 7 + j, none⟩ hS).trans (hc j u hu)
  exact ⟨⟨hcc 0 _ rfl, hcc 1 _ rfl, hcc 2 _ rfl, hcc 3 _ rfl, hcc 4 _ rfl, hcc 5 _ rfl, hcc 6 _ rfl⟩, hwf, hS⟩

set_option maxRecDepth 8000 in
set_option maxHeartbeats 40000000 in
theorem refmay_any (A : Option Addr) (n c : Nat) (l : List Req) (w : World) (h : IsSl reqRep w (· < w.heap.size) A n l) (hn : n ≤ 1000000) :
    Calls Try.prog 92 #[.slice A n c] w fun e w' => e = .returned (.bool (mayB l)) ∧ Below w.heap.size w w' := by
  have HL := Lib.hid h.len
  by_cases h64 : 64 < n
  · have HM := Lib.hid (show mayB l = false by unfold mayB; rw [← HL.out]; simp; omega)
    clear h
    go_enter Try.func92, Try.ntmps92
    go_wp2
    go_ret
    exact ⟨by rw [HM.out]; rfl, Below.refl _ _⟩
  · have hn64 : n ≤ 64 := by omega
    clear h64
    go_enter Try.func92, Try.ntmps92
    go_wp2
    go_loopw [2, 3, 4, 5] (fun _ i _ _ wr => ∃ k : Nat, k ≤ n ∧ i = .int .i64 k ∧ refFrom [] (l.take k) = true ∧ Below w.heap.size w wr) (fun _ i _ _ _ => n - (intOf i).toNat)
    case atStart => exact ⟨0, Nat.zero_le _, rfl, rfl, Below.refl _ _⟩
    case round =>
      obtain ⟨wo, rfl⟩ : ∃ wo : World, wo = wr := ⟨_, rfl⟩
      obtain ⟨k, hk, rfl, hok, hbel⟩ := hrel
      have HOK := Lib.hid hok
      have hs0 := hbel.size
      clear hok
      by_cases hlt : k < n
      · obtain ⟨b, off, x, _, rfl, _, hx, _, _⟩ := h.at_ hlt
        obtain ⟨⟨c0, c1, c2, c3, c4, c5, c6⟩, hwf, hbS⟩ := ReqCells.of h hx (fun p hp => hbel.cell hp)
        have HT := Lib.hid (refFrom_take hx)
        have HX := Lib.hid hx
        have hkl : (l.take k).length = k := by rw [List.length_take, ← HL.out]; omega
        have HKL := Lib.hid hkl
        have hprev : 0 < k → ∃ y, l[k - 1]? = some y ∧ wo.cell? ⟨b, off + (k - 1) * 7 + 3, none⟩ = some (.int .i64 y.at_) ∧ aheadOf (l.take k) = y.at_ := by
          intro h0
          have hy : l[k - 1]? = some (l[k - 1]'(by rw [← HL.out]; omega)) := List.getElem?_eq_getElem _
          obtain ⟨⟨_, _, _, d3, _⟩, _, _⟩ := ReqCells.of h hy (fun p hp => hbel.cell hp)
          refine ⟨_, hy, d3, ?_⟩
          have := aheadOf_take hy
          rwa [show k - 1 + 1 = k by omega] at this
        obtain ⟨pre, hpre⟩ : ∃ pre, pre = l.take k := ⟨_, rfl⟩
        have HPRE := Lib.hid hpre
        have HH := Lib.hid h
        rw [← hpre] at HT HOK HKL hprev
        have hw1 : IntKind.i64.wrap ((k : Int) + 1) = (k : Int) + 1 := IntWalk.i64_in _ ⟨by omega, by omega⟩
        have hw2 : IntKind.i64.wrap ((k : Int) - 1) = (k : Int) - 1 := IntWalk.i64_in _ ⟨by omega, by omega⟩
        have hbw : b < wo.heap.size := Nat.lt_of_lt_of_le hbS hs0
        clear h hx hkl hpre
        by_cases hgood : x.id = (k : Int) + 1 ∧ 0 ≤ x.table ∧ x.table < 8 ∧ 1 ≤ x.weight ∧ x.weight ≤ 8 ∧ 1 ≤ x.at_ ∧ x.at_ ≤ 1099511627776 ∧ (k = 0 ∨ aheadOf pre ≤ x.at_)
        · obtain ⟨g0, g1, g2, g3, g4, g5, g6, g7⟩ := hgood
          have HG0 := Lib.hid g0
          have b0 : (x.id != (k : Int) + 1) = false := by simp [g0]
          have b1 : decide (x.table < 0) = false := by simp; omega
          have b2 : decide (8 ≤ x.table) = false := by simp; omega
          have b3 : decide (x.weight < 1) = false := by simp; omega
          have b4 : decide (8 < x.weight) = false := by simp; omega
          have b5 : decide (x.at_ < 1) = false := by simp; omega
          have b6 : decide (1099511627776 < x.at_) = false := by simp; omega
          have hag : aheadOf pre ≤ x.at_ := by
            rcases g7 with rfl | h7
            · have : pre = [] := List.eq_nil_of_length_eq_zero HKL.out
              rw [this]
              show (0 : Int) ≤ x.at_
              omega
            · exact h7
          have HAG := Lib.hid hag
          have hk7 : (decide ((0 : Int) < (k : Int)) = false ∧ decide (0 < k) = false) ∨ (∃ yat : Int, 0 < k ∧ (0 : Int) < (k : Int) ∧ (0 : Int) ≤ (k : Int) - 1 ∧ (k : Int) - 1 < (n : Int) ∧ wo.cell? ⟨b, off + (k - 1) * 7 + 3, none⟩ = some (.int .i64 yat) ∧ decide (x.at_ < yat) = false) := by
            rcases Nat.eq_zero_or_pos k with h0 | h0
            · left; exact ⟨by simp; omega, by simp; omega⟩
            · right
              obtain ⟨y, hy, dy, hay⟩ := hprev h0
              rw [hay] at hag
              exact ⟨_, h0, by omega, by omega, by omega, dy, by simp; omega⟩
          clear hprev hag g0 g7
          have HST := Lib.hid (show oneB x (aheadOf pre) = true → refStep pre x = !clash pre x.table by intro hone; unfold refStep; rw [HKL.out, hone]; simp [HG0.out])
          have HB := Lib.hid (show ¬ (0 ≤ x.cursor ∧ x.cursor ≤ 1099511627776 ∧ 0 ≤ x.chunks ∧ x.chunks ≤ 1099511627776) → mayB l = false by
            intro hT2
            have hone : oneB x (aheadOf pre) = false := by
              unfold oneB
              rw [decide_eq_false_iff_not]
              intro hh
              exact hT2 ⟨hh.2.2.2.2.2.2.2.1, hh.2.2.2.2.2.2.2.2.1, hh.2.2.2.2.2.2.2.2.2.1, hh.2.2.2.2.2.2.2.2.2.2⟩
            rw [mayB, ← ref_all, refFrom_false (k := k + 1) (by rw [HT.out, show refStep pre x = false by unfold refStep; rw [hone]; simp, Bool.and_false])]; rfl)
          have HONE := Lib.hid (show (0 ≤ x.cursor ∧ x.cursor ≤ 1099511627776 ∧ 0 ≤ x.chunks ∧ x.chunks ≤ 1099511627776) → oneB x (aheadOf pre) = true by
            intro hT2
            unfold oneB
            rw [decide_eq_true_iff]
            have := HAG.out
            exact ⟨g1, g2, g3, g4, this, g5, g6, hT2.1, hT2.2.1, hT2.2.2.1, hT2.2.2.2⟩)
          clear g1 g2 g3 g4 g5 g6
          rcases hk7 with ⟨bk, bkn⟩ | ⟨yat, bkn, bk, bk1, bk2, dy, b7⟩
          all_goals
            go_wp2
            go_quiet (fail)
            go_wp2
          all_goals first
            | (go_ret
               exact ⟨by rw [HB.out (by omega)]; rfl, below_drewN (hbel.alloc hs0 _) _⟩)
            | (have HS1 := Lib.hid (HST.out (HONE.out ⟨by omega, by omega, by omega, by omega⟩))
               go_loopw [5] (fun q wq => ∃ q0 : Nat, q = .int .i64 q0 ∧ q0 ≤ k ∧ clash (pre.take q0) x.table = false ∧ Below (wo.heap.size + 1) (wo.alloc (.cells #[.int .i64 x.id, .int .i64 x.table, .int .i64 x.weight, .int .i64 x.at_, .int .i64 x.cursor, .int .i64 x.chunks, .bool x.done] 94)) wq) (fun q _ => k - (intOf q).toNat)
               case atStart => exact ⟨0, rfl, Nat.zero_le _, rfl, below_drewN (Below.refl _ _) _⟩
               case round =>
                 obtain ⟨q0, rfl, hq, hcl, hbq⟩ := hrel
                 have hbw2 : Below w.heap.size w wr := (hbel.alloc hs0 _).trans (hbq.mono (by omega))
                 by_cases hqk : q0 < k
                 · have hy : l[q0]? = some (l[q0]'(by rw [← HL.out]; omega)) := List.getElem?_eq_getElem _
                   obtain ⟨y, hyy⟩ : ∃ y, y = l[q0]'(by rw [← HL.out]; omega) := ⟨_, rfl⟩
                   rw [← hyy] at hy
                   obtain ⟨⟨_, d1, _, _, _, _, d6⟩, _, _⟩ := ReqCells.of HH.out hy (fun p hp => hbw2.cell hp)
                   have f1 : wr.cell? ⟨wo.heap.size, 1, none⟩ = some (.int .i64 x.table) := (hbq.cell (p := ⟨wo.heap.size, 1, none⟩) (by simp)).trans (World.cell?_alloc_at _ _ _ _ rfl)
                   have hyp : pre[q0]? = some y := by rw [HPRE.out, List.getElem?_take, if_pos hqk]; exact hy
                   have HYP := Lib.hid hyp
                   have HCT := Lib.hid (clash_take_succ (t := x.table) hyp)
                   have HCL := Lib.hid hcl
                   have q1 : (0 : Int) ≤ (q0 : Int) := by omega
                   have q2 : (q0 : Int) < (n : Int) := by omega
                   clear hy hyy hyp hcl
                   cases ht : (y.table == x.table) with
                   | false =>
                     go_wp2
                     go_quiet (fail)
                     go_wp2
                     go_roundw
                     case rel => exact ⟨q0 + 1, by go_num, by omega, by rw [HCT.out, HCL.out]; simp at ht; simp [ht], below_drewN hbq _⟩
                     case measure => simp [intOf]; omega
                   | true =>
                     cases hd : y.done with
                     | true =>
                       rw [hd] at d6
                       go_wp2
                       go_quiet (fail)
                       go_wp2
                       go_roundw
                       case rel => exact ⟨q0 + 1, by go_num, by omega, by rw [HCT.out, HCL.out, hd]; simp, below_drewN hbq _⟩
                       case measure => simp [intOf]; omega
                     | false =>
                       rw [hd] at d6
                       have HFIN := Lib.hid (show mayB l = false by rw [mayB, ← ref_all, refFrom_false (k := k + 1) (by rw [HT.out, HS1.out, clash_hit HYP.out (by simpa using ht) hd]; simp)]; rfl)
                       clear hd
                       go_wp2
                       go_quiet (fail)
                       go_wp2
                       go_ret
                       exact ⟨by rw [HFIN.out]; rfl, below_drewN hbw2 _⟩
                 · have HCL := Lib.hid hcl
                   obtain rfl : k = q0 := by omega
                   clear hcl hq hqk
                   go_wp2
                   go_roundw
                   case rel => exact ⟨k + 1, by omega, by go_num, by have hcl := HCL.out; rw [HT.out, HOK.out, HS1.out]; rw [List.take_of_length_le (by rw [HKL.out]; exact Nat.le_refl _)] at hcl; rw [hcl]; rfl, hbw2⟩
                   case measure => simp [intOf]; omega)
        · have HS := Lib.hid (show refStep pre x = false by
            unfold refStep
            rw [HKL.out]
            by_cases hid : x.id = (k : Int) + 1
            · have hone : oneB x (aheadOf pre) = false := by
                unfold oneB
                rw [decide_eq_false_iff_not]
                intro hh
                refine hgood ⟨hid, hh.1, hh.2.1, hh.2.2.1, hh.2.2.2.1, ?_, ?_, .inr ?_⟩ <;> omega
              rw [hone]; simp
            · simp [hid])
          have hfin : mayB l = false := by rw [mayB, ← ref_all, refFrom_false (k := k + 1) (by rw [HT.out, HS.out, Bool.and_false])]; rfl
          have HFIN := Lib.hid hfin
          have hbad : (x.id != (k : Int) + 1) = true ∨ ((x.id != (k : Int) + 1) = false ∧ x.table < 0) ∨ ((x.id != (k : Int) + 1) = false ∧ decide (x.table < 0) = false ∧ 8 ≤ x.table) ∨ ((x.id != (k : Int) + 1) = false ∧ decide (x.table < 0) = false ∧ decide (8 ≤ x.table) = false ∧ x.weight < 1) ∨ ((x.id != (k : Int) + 1) = false ∧ decide (x.table < 0) = false ∧ decide (8 ≤ x.table) = false ∧ decide (x.weight < 1) = false ∧ 8 < x.weight) ∨ ((x.id != (k : Int) + 1) = false ∧ decide (x.table < 0) = false ∧ decide (8 ≤ x.table) = false ∧ decide (x.weight < 1) = false ∧ decide (8 < x.weight) = false ∧ x.at_ < 1) ∨ ((x.id != (k : Int) + 1) = false ∧ decide (x.table < 0) = false ∧ decide (8 ≤ x.table) = false ∧ decide (x.weight < 1) = false ∧ decide (8 < x.weight) = false ∧ decide (x.at_ < 1) = false ∧ 1099511627776 < x.at_) ∨ ((x.id != (k : Int) + 1) = false ∧ decide (x.table < 0) = false ∧ decide (8 ≤ x.table) = false ∧ decide (x.weight < 1) = false ∧ decide (8 < x.weight) = false ∧ decide (x.at_ < 1) = false ∧ decide (1099511627776 < x.at_) = false ∧ 0 < k ∧ x.at_ < aheadOf pre) := by
            simp only [bne_iff_ne, bne_eq_false_iff_eq, decide_eq_false_iff_not, ne_eq]
            omega
          clear hgood hfin
          rcases hbad with b0 | ⟨b0, b1⟩ | ⟨b0, b1, b2⟩ | ⟨b0, b1, b2, b3⟩ | ⟨b0, b1, b2, b3, b4⟩ | ⟨b0, b1, b2, b3, b4, b5⟩ | ⟨b0, b1, b2, b3, b4, b5, b6⟩ | ⟨b0, b1, b2, b3, b4, b5, b6, b7, b8⟩
          case inr.inr.inr.inr.inr.inr.inr =>
            obtain ⟨y, hy, dy, hay⟩ := hprev b7
            rw [hay] at b8
            have HY := Lib.hid hy
            have b9 : (0 : Int) < (k : Int) := by omega
            have bk : (0 : Int) ≤ (k : Int) - 1 := by omega
            have bk2 : (k : Int) - 1 < (n : Int) := by omega
            clear hy hay hprev
            go_wp2
            go_quiet (fail)
            go_wp2
            go_ret
            exact ⟨by rw [HFIN.out]; rfl, below_drewN (hbel.alloc hs0 _) _⟩
          all_goals
            clear hprev
            go_wp2
            go_quiet (fail)
            go_wp2
            go_ret
            exact ⟨by rw [HFIN.out]; rfl, below_drewN (hbel.alloc hs0 _) _⟩
      · have hge : n ≤ k := by omega
        have e1 : mayB l = true := by
          have := HOK.out
          rw [List.take_of_length_le (by rw [← HL.out]; exact hge)] at this
          rw [mayB, ← ref_all, this, ← HL.out]
          simp; omega
        have E1 := Lib.hid e1
        clear e1 h
        go_wp2
        go_ret
        exact ⟨by rw [E1.out]; rfl, hbel⟩
end Go.Proofs.Ythhpddiicnjmmaa

set_option maxRecDepth 100000
namespace Go.Proofs.Ythhpddiicnjmmaa
open Go.RowKit

set_option maxHeartbeats 1000000 in
theorem refaccept_any (A : Option Addr) (n c : Nat) (l : List Req) (table weight at_ : Int) (w : World) (h : IsSl reqRep w (· < w.heap.size) A n l) (hn : n ≤ 900000) (ht : I64 table) (hw : I64 weight) (ha : I64 at_) :
    Calls Try.prog 38 #[.slice A n c, .int .i64 table, .int .i64 weight, .int .i64 at_] w (Answers w (acceptO l table weight at_)) := by
  obtain ⟨i0, hi, hz0, hz1, hz2⟩ := info_parts info_req
  have hlen := h.len
  have hwf : (⟨(l.length : Int) + 1, table, weight, at_, 0, 0, false⟩ : Req).wf := by
    refine ⟨?_, ht, hw, ha, ?_, ?_⟩ <;> (unfold I64; dsimp only; omega)
  obtain ⟨l2, hl2⟩ : ∃ l2, l2 = l ++ [(⟨(l.length : Int) + 1, table, weight, at_, 0, 0, false⟩ : Req)] := ⟨_, rfl⟩
  have HO := Lib.hid (show acceptO l table weight at_ = if mayB l && mayB l2 then some l2 else none by rw [hl2]; rfl)
  rw [← hlen] at hl2 hwf
  have HL2 := Lib.hid hl2
  have h2len : l2.length = n + 1 := by rw [hl2]; simp; omega
  have H2 := Lib.hid h2len
  have HL := Lib.hid hlen
  have H := Lib.hid h
  obtain ⟨m1, hm1⟩ : ∃ m1, m1 = mayB l := ⟨_, rfl⟩
  obtain ⟨m2, hm2⟩ : ∃ m2, m2 = mayB l2 := ⟨_, rfl⟩
  rw [← hm1, ← hm2] at HO
  have HM1 := Lib.hid hm1
  have HM2 := Lib.hid hm2
  have hn1 : n ≤ 1000000 := by omega
  have hn2 : n + 1 ≤ 1000000 := by omega
  have hb0 : Below w.heap.size w (w.alloc (.cells #[] 94)) := (Below.refl _ _).alloc (Nat.le_refl _) _
  clear h hlen hl2 h2len hm1 hm2
  cases m1 <;> cases m2
  all_goals
    go_enter Try.func38, Try.ntmps38
    go_wp2_with (first
      | (at_builtin; refine wpList_append_Own _ rfl (.tmp 11) (.tmp 12) 86 rfl w.heap.size 94 i0 _ 56 Try.underlying86 hi hz0 hz1 hz2 rfl (R := reqRep) (S := fun _ => False) (l := []) (l' := l) (.slice (some ⟨w.heap.size, 0, none⟩) 0 0) rfl (Own.nil _ _ _ (fun _ h => h.elim) _ _) _ n c rfl ((H.out).srcF flat_req hb0) (by simp only [maxLen, List.length_nil]; omega) (by simp only [List.length_nil]; omega) (by omega) (by simp) ?_; intro v1 w1 own1 gr1 at1; have bel1 := hb0.grown gr1 (by simp) (by intro k hk; simp [rowOf] at hk); simp only [List.nil_append] at own1; clear gr1 at1; have hs1 := bel1.size; have hf1 := own1.form; rw [← HL.out] at hf1; obtain ⟨A1, c1, rfl⟩ := hf1)
      | (at_builtin; refine wpList_append_Own _ rfl (.tmp 14) (.tmp 22) 86 rfl w.heap.size 94 i0 _ 56 Try.underlying86 hi hz0 hz1 hz2 rfl (R := reqRep) (S := fun _ => False) (l := l) (l' := [⟨(n : Int) + 1, table, weight, at_, 0, 0, false⟩]) (.slice A1 n c1) rfl (own1.alloc _) _ 1 _ rfl (Src.new ⟨rfl, hwf⟩) (by simp only [maxLen]; rw [← HL.out]; omega) (by rw [← HL.out]; omega) (by omega) (by simp; omega) ?_; intro v2 w2 own2 gr2 at2; have bel2 : Below w.heap.size w w2 := (bel1.alloc hs1 _).grown gr2 (by simp; omega) (fun k hk => own1.row_ge hk); rw [← HL2.out] at own2; obtain ⟨A2, c2, rfl, h21, h22, sl2⟩ := own2.isSl (S' := (· < w2.heap.size)) (fun _ h => h.elim) (fun _ _ h => h); rw [H2.out] at sl2 own2 ⊢; have SL2 := Lib.hid sl2; have OWN2 := Lib.hid own2; have SL1 := Lib.hid (((H.out).below bel2).more bel2.size); have hs2 := bel2.size; clear gr2 at2 own2 sl2)
      | (go_at_call 92; (with_reducible refine (refmay_any A n c l _ SL1.out hn1).mono ?_); rintro e w3 ⟨rfl, bel3⟩; rw [← HM1.out]; have hs3 := bel3.size; have SL3 := Lib.hid (((SL2.out).below bel3).more hs3); have OWN3 := Lib.hid ((OWN2.out).below bel3); have bw3 : Below w.heap.size w w3 := bel2.trans (bel3.mono hs2))
      | (go_at_call 92; (with_reducible refine (refmay_any A2 (n + 1) c2 l2 _ SL3.out hn2).mono ?_); rintro e w4 ⟨rfl, bel4⟩; rw [← HM2.out]; have hs4 := bel4.size; have OWN4 := Lib.hid ((OWN3.out).below bel4); have bw4 : Below w.heap.size w w4 := bw3.trans (bel4.mono (by omega))))
    go_ret2
    unfold Answers
    rw [HO.out]
  · exact ⟨_, rfl, Own.nil _ _ _ (fun _ h => h.elim) _ _, bw3⟩
  · exact ⟨_, rfl, Own.nil _ _ _ (fun _ h => h.elim) _ _, bw3⟩
  · exact ⟨_, rfl, Own.nil _ _ _ (fun _ h => h.elim) _ _, bw4⟩
  · exact ⟨_, rfl, OWN4.out, bw4⟩

end Go.Proofs.Ythhpddiicnjmmaa
