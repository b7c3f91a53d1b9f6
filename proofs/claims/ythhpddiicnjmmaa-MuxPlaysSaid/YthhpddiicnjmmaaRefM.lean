/- The reference's mux: where it lies; contracts of NewMux, Captured. -/
import Derived.Test.YthhpddiicnjmmaaMuxC
import Derived.Test.YthhpddiicnjmmaaReqG
import Derived.Test.YthhpddiicnjmmaaRefWA
set_option linter.unusedVariables false
set_option linter.unusedSimpArgs false
set_option maxRecDepth 100000
namespace Go.Proofs.Ythhpddiicnjmmaa
open Go.RowKit

/-- The reference's mux at block gx, its window at gw; its requests, its rows lie in T. -/
structure RefMxAt (w : World) (T : Nat → Prop) (gx gw : Nat) (x : Mx) (A : Option Addr) (c : Nat) : Prop where
  blk : Blk w gx [.int .i64 x.tables, .int .i64 x.late, .int .i64 x.at_, .slice A x.reqs.length c, .pointer (some ⟨gw, 0, none⟩)]
  reqs : IsSl reqRep w T A x.reqs.length x.reqs
  win : RefIn w T gw x.win
  hT : ∀ k, T k → k < w.heap.size
  nT : ¬ T gx
  ne : gx ≠ gw
def RefMx (w : World) (T : Nat → Prop) (gx gw : Nat) (x : Mx) : Prop := ∃ A c, RefMxAt w T gx gw x A c

theorem RefMxAt.below {w w' : World} {T : Nat → Prop} {gx gw : Nat} {x : Mx} {A : Option Addr} {c : Nat} (h : RefMxAt w T gx gw x A c) (hb : Below w.heap.size w w') : RefMxAt w' T gx gw x A c :=
  ⟨h.blk.after hb, h.reqs.keep fun p hp => hb.cell (h.hT _ hp), h.win.below hb, fun k hk => Nat.lt_of_lt_of_le (h.hT k hk) hb.size, h.nT, h.ne⟩
theorem RefMx.below {w w' : World} {T : Nat → Prop} {gx gw : Nat} {x : Mx} (h : RefMx w T gx gw x) (hb : Below w.heap.size w w') : RefMx w' T gx gw x := by
  obtain ⟨A, c, h⟩ := h
  exact ⟨A, c, h.below hb⟩

def RefNewPost (w : World) (ok : Bool) (x : Mx) (e : Ending) (w' : World) : Prop :=
  (ok = true ∧ ∃ gx gw, e = .returned (.pointer (some ⟨gx, 0, none⟩)) ∧ w.heap.size ≤ gx ∧ w.heap.size ≤ gw ∧ RefMx w' (fun k => w.heap.size ≤ k ∧ k < w'.heap.size ∧ k ≠ gx ∧ k ≠ gw) gx gw x ∧ Below w.heap.size w w') ∨
  (ok = false ∧ e = .returned (.pointer none) ∧ Below w.heap.size w w')

set_option maxHeartbeats 8000000 in
theorem refNewMux_any (tables late chunk lsn : Int) (A : Option Addr) (n c : Nat) (l : List Req) (w : World) (h : IsSl reqRep w (· < w.heap.size) A n l) (hn : n ≤ 1000000) :
    Calls Try.prog 41 #[.int .i64 tables, .int .i64 late, .int .i64 chunk, .int .i64 lsn, .slice A n c] w (RefNewPost w (newOk tables late chunk lsn l) (mx0 tables late chunk lsn l)) := by
  obtain ⟨i0, hi, hz0, hz1, hz2⟩ := info_parts info_req
  have H := Lib.hid h
  have HLEN := Lib.hid h.len
  clear h
  by_cases ht : tables < 1 ∨ 8 < tables
  · have HN := Lib.hid (show newOk tables late chunk lsn l = false by unfold newOk; rw [decide_eq_false (by omega)]; rfl)
    rcases (show tables < 1 ∨ (¬ tables < 1 ∧ 8 < tables) by omega) with h1 | ⟨h1, h2⟩
    · have d1 : decide (tables < 1) = true := decide_eq_true h1
      clear ht
      go_enter Try.func41, Try.ntmps41
      go_wp2_with fail
      go_ret
      exact .inr ⟨HN.out, rfl, Below.refl _ _⟩
    · have d1 : decide (tables < 1) = false := decide_eq_false h1
      have d2 : decide (8 < tables) = true := decide_eq_true h2
      clear ht
      go_enter Try.func41, Try.ntmps41
      go_wp2_with fail
      go_ret
      exact .inr ⟨HN.out, rfl, Below.refl _ _⟩
  · obtain ⟨k, rfl⟩ := Int.eq_ofNat_of_zero_le (show 0 ≤ tables by omega)
    have hk1 : 1 ≤ k := by omega
    have hk2 : k ≤ 8 := by omega
    obtain ⟨hp1, hp2⟩ := pow_small hk2
    have d1 : decide ((k : Int) < 1) = false := decide_eq_false (by omega)
    have d2 : decide (8 < (k : Int)) = false := decide_eq_false (by omega)
    clear ht
    by_cases hbad : late < 0 ∨ 2 ^ k ≤ late ∨ chunk < 1 ∨ 64 < chunk ∨ lsn < 0 ∨ 1099511627776 < lsn
    · have HN := Lib.hid (show newOk (k : Int) late chunk lsn l = false by unfold newOk; rw [Int.toNat_natCast, decide_eq_false (by omega)]; rfl)
      rcases (show late < 0 ∨ (¬ late < 0 ∧ 2 ^ k ≤ late) ∨ (¬ late < 0 ∧ ¬ 2 ^ k ≤ late ∧ chunk < 1) ∨ (¬ late < 0 ∧ ¬ 2 ^ k ≤ late ∧ ¬ chunk < 1 ∧ 64 < chunk) ∨ (¬ late < 0 ∧ ¬ 2 ^ k ≤ late ∧ ¬ chunk < 1 ∧ ¬ 64 < chunk ∧ lsn < 0) ∨ (¬ late < 0 ∧ ¬ 2 ^ k ≤ late ∧ ¬ chunk < 1 ∧ ¬ 64 < chunk ∧ ¬ lsn < 0 ∧ 1099511627776 < lsn) by omega) with h1 | ⟨h1, h2⟩ | ⟨h1, h2, h3⟩ | ⟨h1, h2, h3, h4⟩ | ⟨h1, h2, h3, h4, h5⟩ | ⟨h1, h2, h3, h4, h5, h6⟩
      case' inl => have e1 : decide (late < 0) = true := decide_eq_true h1
      case' inr.inl => (have e1 : decide (late < 0) = false := decide_eq_false h1; have e2 : decide (2 ^ k ≤ late) = true := decide_eq_true h2)
      case' inr.inr.inl => (have e1 : decide (late < 0) = false := decide_eq_false h1; have e2 : decide (2 ^ k ≤ late) = false := decide_eq_false h2; have e3 : decide (chunk < 1) = true := decide_eq_true h3)
      case' inr.inr.inr.inl => (have e1 : decide (late < 0) = false := decide_eq_false h1; have e2 : decide (2 ^ k ≤ late) = false := decide_eq_false h2; have e3 : decide (chunk < 1) = false := decide_eq_false h3; have e4 : decide (64 < chunk) = true := decide_eq_true h4)
      case' inr.inr.inr.inr.inl => (have e1 : decide (late < 0) = false := decide_eq_false h1; have e2 : decide (2 ^ k ≤ late) = false := decide_eq_false h2; have e3 : decide (chunk < 1) = false := decide_eq_false h3; have e4 : decide (64 < chunk) = false := decide_eq_false h4; have e5 : decide (lsn < 0) = true := decide_eq_true h5)
      case' inr.inr.inr.inr.inr => (have e1 : decide (late < 0) = false := decide_eq_false h1; have e2 : decide (2 ^ k ≤ late) = false := decide_eq_false h2; have e3 : decide (chunk < 1) = false := decide_eq_false h3; have e4 : decide (64 < chunk) = false := decide_eq_false h4; have e5 : decide (lsn < 0) = false := decide_eq_false h5; have e6 : decide (1099511627776 < lsn) = true := decide_eq_true h6)
      all_goals
        clear hbad
        go_enter Try.func41, Try.ntmps41
        go_wp2_with fail
        go_ret
        exact .inr ⟨HN.out, rfl, Below.refl _ _⟩
    · have e1 : decide (late < 0) = false := decide_eq_false (by omega)
      have e2 : decide (2 ^ k ≤ late) = false := decide_eq_false (by omega)
      have e3 : decide (chunk < 1) = false := decide_eq_false (by omega)
      have e4 : decide (64 < chunk) = false := decide_eq_false (by omega)
      have e5 : decide (lsn < 0) = false := decide_eq_false (by omega)
      have e6 : decide (1099511627776 < lsn) = false := decide_eq_false (by omega)
      have HB : Hid (0 ≤ late ∧ late < 2 ^ k ∧ 0 ≤ lsn ∧ lsn ≤ 1099511627776 ∧ 1 ≤ chunk ∧ chunk ≤ 64) := Lib.hid (by omega)
      clear hbad
      cases hm : mayB l
      · have HM := Lib.hid hm
        have HN := Lib.hid (show newOk (k : Int) late chunk lsn l = false by unfold newOk mayMx; rw [hm, Bool.and_false, Bool.and_false])
        clear hm
        go_enter Try.func41, Try.ntmps41
        go_wp2_with (first
          | (go_at_call 92; (with_reducible refine (refmay_any A n c l w H.out hn).mono ?_); rintro e w1 ⟨rfl, bel1⟩; rw [HM.out]; have B1 := Lib.hid bel1; clear bel1)
          | fail)
        go_ret
        exact .inr ⟨HN.out, rfl, B1.out⟩
      · have HM := Lib.hid hm
        clear hm
        go_enter Try.func41, Try.ntmps41
        go_wp2_with (first
          | (go_at_call 92; (with_reducible refine (refmay_any A n c l w H.out hn).mono ?_); rintro e w1 ⟨rfl, bel1⟩; rw [HM.out]; have B1 := Lib.hid bel1; clear bel1)
          | fail)
        go_loopw [11] (fun i wr => ∃ p : Nat, i = .int .i64 p ∧ p ≤ n ∧ (l.take p).all (fun r => decide (r.table < (k : Int) ∧ r.at_ ≤ lsn)) = true ∧ wr = w1) (fun i _ => n - (intOf i).toNat)
        case atStart => exact ⟨0, rfl, Nat.zero_le _, rfl, rfl⟩
        case round =>
          obtain ⟨p, rfl, hp, hall, rfl⟩ := hrel
          have HALL := Lib.hid hall
          clear hall
          by_cases hlt : p < n
          · have hd : decide ((p : Int) < (n : Int)) = true := decide_eq_true (by omega)
            have hpi : (p : Int) < (n : Int) := by omega
            obtain ⟨b, off, x, rfl, hb, hx, hwf, c0, c1, c2, c3, c4, c5, c6⟩ := H.out.req hlt (fun q hq => B1.out.cell hq)
            have HX := Lib.hid hx
            clear hx hwf
            by_cases h1 : x.table < (k : Int)
            · have f1 : decide ((k : Int) ≤ x.table) = false := decide_eq_false (by omega)
              by_cases h2 : x.at_ ≤ lsn
              · have f2 : decide (lsn < x.at_) = false := decide_eq_false (by omega)
                have HS := Lib.hid (show (l.take (p + 1)).all (fun r => decide (r.table < (k : Int) ∧ r.at_ ≤ lsn)) = true from all_step HX.out (decide_eq_true ⟨h1, h2⟩) HALL.out)
                go_wp2
                go_roundw
                case rel => exact ⟨p + 1, by go_num, by omega, HS.out, trivial⟩
                case measure => simp [intOf]; omega
              · have f2 : decide (lsn < x.at_) = true := decide_eq_true (by omega)
                have HF := Lib.hid (show newOk (k : Int) late chunk lsn l = false by unfold newOk mayMx; rw [all_stop HX.out (decide_eq_false (fun h => h2 h.2)), Bool.false_and, Bool.and_false])
                go_wp2
                go_ret
                exact .inr ⟨HF.out, rfl, B1.out⟩
            · have f1 : decide ((k : Int) ≤ x.table) = true := decide_eq_true (by omega)
              have HF := Lib.hid (show newOk (k : Int) late chunk lsn l = false by unfold newOk mayMx; rw [all_stop HX.out (decide_eq_false (fun h => h1 h.1)), Bool.false_and, Bool.and_false])
              go_wp2
              go_ret
              exact .inr ⟨HF.out, rfl, B1.out⟩
          · obtain rfl : p = n := by omega
            have hd : decide ((p : Int) < (p : Int)) = false := by simp
            have HN := Lib.hid (show newOk (k : Int) late chunk lsn l = true by unfold newOk mayMx; rw [all_done (k := p) (by rw [← HLEN.out]; exact Nat.le_refl _) HALL.out, HM.out, Int.toNat_natCast, decide_eq_true (by have := HB.out; omega)]; rfl)
            have B2 := Lib.hid (B1.out.alloc B1.out.size (.cells #[] 94))
            have hs1 := B1.out.size
            have SRC := Lib.hid (show ∀ S, Src reqRep (wr.alloc (.cells #[] 94)) S A p l from fun S => (H.out.below (B2.out)).srcK flat_req (fun _ _ => rfl))
            go_wp2_with (first
              | (at_builtin; refine wpList_append_Own _ rfl _ _ 86 rfl wr.heap.size 94 i0 _ 56 Try.underlying86 hi hz0 hz1 hz2 rfl (R := reqRep) (S := fun _ => False) (l := []) (l' := l) (.slice (some ⟨wr.heap.size, 0, none⟩) 0 0) rfl (Own.nil _ _ _ (fun _ h => h.elim) _ _) A p c rfl (SRC.out _) (by simp [maxLen]; omega) (by simp; omega) (by omega) (by simp) ?_; intro v2 w2 own2 gr2 at2; have bel2 := ((Below.refl wr.heap.size wr).alloc (Nat.le_refl _) (.cells #[] 94)).grown gr2 (by simp) (by intro k hk; simp [rowOf] at hk); simp only [List.nil_append] at own2; obtain ⟨A2, c2, rfl, l2, m2, s2⟩ := own2.isSlR; have S2 := Lib.hid s2; have C2 := Lib.hid (bel_n B1.out bel2); clear gr2 at2 own2 bel2 s2)
              | fail)
            go_ret
            have hsz := C2.out.size
            refine .inl ⟨HN.out, w2.heap.size + 1, w2.heap.size, rfl, by omega, hsz, ⟨A2, c2, ?_, ?_, ?_, ?_, ?_, by omega⟩, (C2.out.alloc hsz _).alloc (by simp; omega) _⟩
            · exact Blk.new rfl (by simp)
            · exact (S2.out.keep fun q hq => (((Below.refl w2.heap.size w2).alloc (Nat.le_refl _) _).alloc (by simp) _).cell hq.2).weak (fun q hq => ⟨by have := hq.1; omega, by have := hq.2; simp; omega, by have := hq.2; omega, by have := hq.2; omega⟩)
            · exact (refnew chunk _ (fun q hq => by have h1 := hq.2.1; have h2 := hq.2.2.1; have h3 := hq.2.2.2; simp at h1; omega)).below ((Below.refl _ _).alloc (Nat.le_refl _) _)
            · exact fun q hq => hq.2.1
            · exact fun hq => hq.2.2.1 rfl

set_option maxHeartbeats 8000000 in
theorem refCapt_any (T : Nat → Prop) (gx gw : Nat) (x : Mx) (w : World) (h : RefMx w T gx gw x) (hf : x.Fine) (t : Int) (ht : I64 t) :
    Calls Try.prog 97 #[.pointer (some ⟨gx, 0, none⟩), .int .i64 t] w fun e w' => e = .returned (.bool (x.capt t)) ∧ w = w' := by
  obtain ⟨A, c, h⟩ := h
  have hls := late_small hf
  obtain ⟨lt, hlt⟩ := Int.eq_ofNat_of_zero_le hf.l1
  obtain ⟨c0, c1, c2, c3, c4, cz⟩ := h.blk.c5
  have HSL := Lib.hid h.reqs
  have HLEN := Lib.hid h.reqs.len
  have hm : x.reqs.length ≤ 64 := may_len hf.may
  have h1 := hf.t1
  have h2 := hf.t2
  have HX : Hid (∀ b, b = (decide (0 ≤ t ∧ t < x.tables) && (!lateB x.late t || x.reqs.any (fun r => r.table == t))) → b = x.capt t) := Lib.hid (fun b hb => hb)
  obtain ⟨xt, xl, xa, xr, xw⟩ := x
  dsimp only at c0 c1 c2 c3 c4 HSL hm h1 h2 hlt hls HX
  subst hlt
  obtain ⟨nr, hnr⟩ : ∃ nr, nr = xr.length := ⟨_, rfl⟩
  have HNR := Lib.hid hnr
  rw [← hnr] at c3 HSL hm
  clear h hf hnr
  by_cases h3 : t < 0
  · have d1 : decide (t < 0) = true := decide_eq_true h3
    have HR := Lib.hid (HX.out false (by rw [decide_eq_false (by omega)]; rfl))
    go_enter Try.func97, Try.ntmps97
    go_wp2
    go_ret
    rw [← HR.out]; exact ⟨rfl, rfl⟩
  · obtain ⟨lk, rfl⟩ := Int.eq_ofNat_of_zero_le (show 0 ≤ t by omega)
    have d1 : decide ((lk : Int) < 0) = false := decide_eq_false h3
    by_cases h4 : xt ≤ (lk : Int)
    · have d2 : decide (xt ≤ (lk : Int)) = true := decide_eq_true h4
      have HR := Lib.hid (HX.out false (by rw [decide_eq_false (by omega)]; rfl))
      go_enter Try.func97, Try.ntmps97
      go_wp2
      go_ret
      rw [← HR.out]; exact ⟨rfl, rfl⟩
    · have d2 : decide (xt ≤ (lk : Int)) = false := decide_eq_false h4
      have hbit := shr_bit64 lt lk (by omega)
      have HLB := Lib.hid (show lateB (lt : Int) (lk : Int) = !(((lt / 2 ^ lk % 2 : Nat) : Int) == 0) by unfold lateB; simp)
      rcases Nat.mod_two_eq_zero_or_one (lt / 2 ^ lk) with hz | hz
      · rw [hz] at hbit HLB
        have HR := Lib.hid (HX.out true (by rw [decide_eq_true ⟨by omega, by omega⟩, HLB.out]; rfl))
        go_enter Try.func97, Try.ntmps97
        go_wp2
        go_ret
        rw [← HR.out]; exact ⟨rfl, rfl⟩
      · rw [hz] at hbit HLB
        have HRT := Lib.hid (show ∀ b, b = xr.any (fun r => r.table == (lk : Int)) → b = Mx.capt ⟨xt, (lt : Int), xa, xr, xw⟩ (lk : Int) from fun b hb => HX.out b (by rw [decide_eq_true ⟨by omega, by omega⟩, HLB.out, hb]; cases xr.any (fun r => r.table == (lk : Int)) <;> rfl))
        go_enter Try.func97, Try.ntmps97
        go_wp2
        go_loopw [5] (fun i wr => ∃ p : Nat, i = .int .i64 p ∧ p ≤ nr ∧ (xr.take p).any (fun r => r.table == (lk : Int)) = false ∧ wr = w) (fun i _ => nr - (intOf i).toNat)
        case atStart => exact ⟨0, rfl, Nat.zero_le _, by simp, rfl⟩
        case round =>
          obtain ⟨p, rfl, hp, hall, rfl⟩ := hrel
          have HA := Lib.hid hall
          clear hall
          by_cases hlt : p < nr
          · have hd : decide ((p : Int) < (nr : Int)) = true := decide_eq_true (by omega)
            have hpi : (p : Int) < (nr : Int) := by omega
            obtain ⟨b0, off, y, rfl, hbT, hx, hwf, k0, k1, k2, k3, k4, k5, k6⟩ := HSL.out.req (w' := wr) hlt (fun _ _ => rfl)
            have HTK := Lib.hid (show (xr.take (p + 1)).any (fun r => r.table == (lk : Int)) = (y.table == (lk : Int)) by rw [take_snoc hx, List.any_append, HA.out]; simp)
            have HX2 := Lib.hid hx
            clear hx hwf
            by_cases g1 : y.table = (lk : Int)
            · have e1 : (y.table == (lk : Int)) = true := by simpa using g1
              have e2 : decide (y.table = (lk : Int)) = true := decide_eq_true g1
              have HG := Lib.hid (show xr.any (fun r => r.table == (lk : Int)) = true from List.any_eq_true.2 ⟨y, List.mem_of_getElem? HX2.out, e1⟩)
              clear g1
              go_wp2
              go_ret
              rw [← HRT.out true HG.out.symm]; exact ⟨rfl, rfl⟩
            · have e1 : (y.table == (lk : Int)) = false := by simpa using g1
              have e2 : decide (y.table = (lk : Int)) = false := decide_eq_false g1
              rw [e1] at HTK
              clear g1
              go_wp2
              go_roundw
              case rel => exact ⟨p + 1, by go_num, by omega, HTK.out, trivial⟩
              case measure => simp [intOf]; omega
          · obtain rfl : p = nr := by omega
            have hd : decide ((p : Int) < (p : Int)) = false := by simp
            have HF := Lib.hid (show xr.any (fun r => r.table == (lk : Int)) = false by have := HA.out; rw [List.take_of_length_le (by rw [← HNR.out]; exact Nat.le_refl _)] at this; exact this)
            go_wp2
            go_ret
            rw [← HRT.out false HF.out.symm]; exact ⟨rfl, rfl⟩
end Go.Proofs.Ythhpddiicnjmmaa
