/- The walk of the law MuxNews. -/
import Derived.Test.YthhpddiicnjmmaaMuxK
import Derived.Test.YthhpddiicnjmmaaPlay
set_option linter.unusedVariables false
set_option linter.unusedSimpArgs false
set_option maxRecDepth 100000
namespace Go.Proofs.Ythhpddiicnjmmaa
open Go.RowKit

/-- What both calls give, as values. -/
theorem NewPost.val {w : World} {ok : Bool} {x : Mx} {e : Ending} {w' : World} (h : NewPost w ok x e w') :
    ∃ pv ev, e = .returned (.tuple #[pv, .int .i64 ev]) ∧ ((ok = true ∧ ev = 0 ∧ ∃ gm g, pv = .pointer (some ⟨gm, 0, none⟩) ∧ MuxOwn w' (· < w.heap.size) gm g x) ∨ (ok = false ∧ ev = 1 ∧ pv = .pointer none)) ∧ Below w.heap.size w w' := by
  rcases h with ⟨h1, gm, g, h2, h3, h4⟩ | ⟨h1, h2, h3⟩
  · exact ⟨_, _, h2, .inl ⟨h1, rfl, gm, g, rfl, h3⟩, h4⟩
  · exact ⟨_, _, h2, .inr ⟨h1, rfl, rfl⟩, h3⟩
theorem RefNewPost.val {w : World} {ok : Bool} {x : Mx} {e : Ending} {w' : World} (h : RefNewPost w ok x e w') :
    ∃ pv, e = .returned pv ∧ ((ok = true ∧ ∃ T gx gw, pv = .pointer (some ⟨gx, 0, none⟩) ∧ RefMx w' T gx gw x) ∨ (ok = false ∧ pv = .pointer none)) ∧ Below w.heap.size w w' := by
  rcases h with ⟨h1, gx, gw, h2, _, _, h3, h4⟩ | ⟨h1, h2, h3⟩
  · exact ⟨_, h2, .inl ⟨h1, _, gx, gw, rfl, h3⟩, h4⟩
  · exact ⟨_, h2, .inr ⟨h1, rfl⟩, h3⟩

set_option maxHeartbeats 16000000 in
theorem muxNews_walk (w : World) (tables : Int) (ht : I64 tables) (late : Int) (hla : I64 late) (chunk : Int) (hch : I64 chunk) (lsn : Int) (hls : I64 lsn) (A : Option Addr) (n c : Nat) (l : List Req) (h : IsSl reqRep w (· < w.heap.size) A n l) (h1 : n ≤ c) (h2 : c ≤ maxLen) (q : Int) (hq : I64 q) :
    Calls Try.prog 9 #[.int .i64 tables, .int .i64 late, .int .i64 chunk, .int .i64 lsn, .slice A n c, .int .i64 q] w fun e w' => e = .returned (.bool true) ∧ Below w.heap.size w w' := by
  have H := Lib.hid h
  clear h ht hla hch hls hq
  by_cases hn : 100 < n
  · have hd : decide ((100 : Int) < (n : Int)) = true := decide_eq_true (by omega)
    go_enter Try.func9, Try.ntmps9
    go_wp2_with (first
      | (go_at_call 36; (with_reducible refine (awake27_any w).mono ?_); rintro e w9 ⟨rfl, bel9⟩; have B9 := Lib.hid bel9; clear bel9)
      | fail)
    go_ret
    exact ⟨rfl, B9.out⟩
  have hd : decide ((100 : Int) < (n : Int)) = false := decide_eq_false (by omega)
  obtain ⟨tq, htq⟩ := Int.eq_ofNat_of_zero_le (modOf_range tables 8 (by omega)).1
  have ht8 : tq < 8 := by have := (modOf_range tables 8 (by omega)).2; omega
  have HTQ := Lib.hid htq
  clear htq
  go_enter Try.func9, Try.ntmps9
  go_wp2_with fail
  go_loopw [13, 14] (fun rv i wr => ∃ (k : Nat) (A7 : Option Addr) (n7 c7 : Nat) (acc : List Req), i = .int .i64 k ∧ rv = .slice A7 n7 c7 ∧ k ≤ 6 ∧ n7 ≤ k ∧ IsSl reqRep wr (· < wr.heap.size) A7 n7 acc ∧ Below w.heap.size w wr) (fun _ i _ => 6 - (intOf i).toNat)
  case atStart => exact ⟨0, none, 0, 0, [], rfl, rfl, Nat.zero_le _, Nat.le_refl _, IsSl.nil, Below.refl _ _⟩
  case round =>
    obtain ⟨wo, rfl⟩ : ∃ q : World, q = wr := ⟨_, rfl⟩
    obtain ⟨k, A7, n7, c7, acc, rfl, rfl, hk, hnk, hacc, hbel⟩ := hrel
    have BE := Lib.hid hbel
    have HA := Lib.hid hacc
    have HAL := Lib.hid hacc.len
    by_cases hlt : k < n ∧ k < 6
    · obtain ⟨hk1, hk2⟩ := hlt
      have hd1 : decide ((k : Int) < (n : Int)) = true := decide_eq_true (by omega)
      have hd2 : decide ((k : Int) < 6) = true := decide_eq_true (by omega)
      have hki : (k : Int) < (n : Int) := by omega
      have hk0 : (0 : Int) ≤ (k : Int) := by omega
      obtain ⟨b, off, x, rfl, hb, hx, hwf, c0, c1, c2, c3, c4, c5, c6⟩ := H.out.req (w' := wo) hk1 (fun p hp => hbel.cell hp)
      have HAD := Lib.hid (show IsSl reqRep wo.drew (· < wo.drew.heap.size) A7 n7 acc from hacc.keep (fun _ _ => rfl))
      obtain ⟨m1, hm1⟩ := Int.eq_ofNat_of_zero_le (modOf_range x.table 5 (by omega)).1
      obtain ⟨m2, hm2⟩ := Int.eq_ofNat_of_zero_le (modOf_range x.weight 8 (by omega)).1
      have hm1' : m1 < 5 := by have := (modOf_range x.table 5 (by omega)).2; omega
      have hm2' : m2 < 8 := by have := (modOf_range x.weight 8 (by omega)).2; omega
      have HM1 := Lib.hid hm1
      have HM2 := Lib.hid hm2
      obtain ⟨o, ho⟩ : ∃ o, o = acceptO acc (m1 : Int) (1 + (m2 : Int)) ((k : Int) + 1) := ⟨_, rfl⟩
      have HOO := Lib.hid ho
      have hn7 : n7 ≤ 900000 := by omega
      have hw1 : IntKind.i64.wrap (1 + (m2 : Int)) = 1 + (m2 : Int) := IntWalk.i64_in _ (by omega)
      have hw2 : IntKind.i64.wrap ((k : Int) + 1) = (k : Int) + 1 := IntWalk.i64_in _ (by omega)
      have hbo : b < wo.drew.heap.size := Nat.lt_of_lt_of_le hb hbel.size
      clear hm1 hm2 ho hx hwf hbel hacc c0 c3 c4 c5 c6
      go_wp2_with fail
      go_region_held3 (fun w' => w'.cell? ⟨b, off + k * 7 + 1, none⟩ = some (.int .i64 x.table) ∧ w'.cell? ⟨b, off + k * 7 + 2, none⟩ = some (.int .i64 x.weight)) (first | exact ⟨c1, c2⟩ | exact ⟨(B9.out.cell (p := ⟨b, off + k * 7 + 1, none⟩) hbo).trans c1, (B9.out.cell (p := ⟨b, off + k * 7 + 2, none⟩) hbo).trans c2⟩ | fail)
        (first
        | (go_at_call 19; (with_reducible refine (mod_any x.table 5 _ (by omega) (by omega)).mono ?_); rintro e w' ⟨rfl, rfl⟩; rw [HM1.out])
        | (go_at_call 19; (with_reducible refine (mod_any x.weight 8 _ (by omega) (by omega)).mono ?_); rintro e w' ⟨rfl, rfl⟩; rw [HM2.out])
        | (go_at_call 38; (with_reducible refine (refaccept_any A7 n7 c7 acc (m1 : Int) (1 + (m2 : Int)) ((k : Int) + 1) _ HAD.out hn7 (by unfold I64; omega) (by unfold I64; omega) (by unfold I64; omega)).mono ?_); rintro e w9 ⟨v9, rfl, own9, bel9⟩; rw [← HOO.out] at own9 ⊢; have B9 := Lib.hid bel9; obtain ⟨A9, c9, rfl, l9, m9, s9⟩ := own9.isSlR; have S9 := Lib.hid s9; clear own9 bel9 s9)
        | fail)
      have hs9 := B9.out.size
      have BL9 := Lib.hid (show Below w.heap.size w w9 from (below_drewN BE.out 1).trans (B9.out.mono BE.out.size))
      have SA9 := Lib.hid (HAD.out.af B9.out)
      cases o with
      | none =>
        go_wp2
        go_roundw
        case rel => exact ⟨k + 1, A7, n7, c7, acc, by go_num, rfl, by omega, by omega, SA9.out, BL9.out⟩
        case measure => simp [intOf]; omega
      | some M =>
        have HM := Lib.hid (show M.length = n7 + 1 by rw [(acceptO_some HOO.out.symm).1, List.length_append, ← HAL.out]; rfl)
        have S9' := Lib.hid (show IsSl reqRep w9 (· < w9.heap.size) A9 M.length M from S9.out.weak (fun q hq => hq.2))
        go_wp2
        go_roundw
        case rel => exact ⟨k + 1, A9, M.length, c9, M, by go_num, rfl, by omega, by rw [HM.out]; omega, S9'.out, BL9.out⟩
        case measure => simp [intOf]; omega
    · have hend : n ≤ k ∨ (k < n ∧ k = 6) := by omega
      clear hlt hacc hbel
      rcases hend with h5 | ⟨h5, rfl⟩
      case' inl => have hd5 : decide ((k : Int) < (n : Int)) = false := decide_eq_false (by omega)
      case' inr => have hd5 : decide ((6 : Int) < (n : Int)) = true := decide_eq_true (by omega)
      all_goals
        go_upto_region 12 with (first
          | (go_at_call 19; (with_reducible refine (mod_any tables 8 _ (by omega) (by omega)).mono ?_); rintro e w' ⟨rfl, rfl⟩; rw [HTQ.out])
          | fail)
        obtain ⟨WB, hWB⟩ : ∃ WB, WB = wo.alloc (.cells #[.slice A n c, .slice A7 n7 c7, .slice A7 n7 c7] 86) := ⟨_, rfl⟩
        have KB := Lib.hid (show Blk WB wo.heap.size [.slice A n c, .slice A7 n7 c7, .slice A7 n7 c7] by rw [hWB]; exact Blk.new rfl rfl)
        have BO := Lib.hid (show Below wo.heap.size wo WB by rw [hWB]; exact (Below.refl _ _).alloc (Nat.le_refl _) _)
        rw [← hWB]
        obtain ⟨bk, hbk⟩ : ∃ bk, bk = wo.heap.size := ⟨_, rfl⟩
        rw [← hbk] at KB ⊢
        have BB := Lib.hid (show Below w.heap.size w WB from BE.out.trans (BO.out.mono BE.out.size))
        have HL2 := Lib.hid (H.out.af BB.out)
        have HA2 := Lib.hid (HA.out.af BO.out)
        obtain ⟨hp1, hp2⟩ := pow_small (k := 1 + tq) (by omega)
        have hp0 : (0 : Int) < 2 ^ (1 + tq) := by have : 0 < 2 ^ (1 + tq) := Nat.pow_pos (by omega); have e : ((2 ^ (1 + tq) : Nat) : Int) = (2 : Int) ^ (1 + tq) := (by simp); rw [← e]; exact_mod_cast this
        obtain ⟨N2, hN2⟩ : ∃ N2 : Int, N2 = 2 ^ (1 + tq) + 2 := ⟨_, rfl⟩
        have HN2 := Lib.hid (show wrap64 (wrap64 (2 ^ (1 + tq)) + 2) = N2 by rw [hp2, hN2]; exact IntWalk.wrap64_in _ ⟨by omega, by omega⟩)
        have hN3 : 0 < N2 := by omega
        have hN4 : N2 ≤ 9223372036854775807 := by omega
        clear hp0 hp1 hp2 hN2
        clear hWB hbk
        go_loopw [71] (fun jv wr => ∃ j : Nat, jv = .int .i64 j ∧ j ≤ 3 ∧ Below WB.heap.size WB wr) (fun jv _ => 3 - (intOf jv).toNat)
        case atStart => exact ⟨0, rfl, Nat.zero_le _, Below.refl _ _⟩
        case round =>
          obtain ⟨wi, rfl⟩ : ∃ q : World, q = wr := ⟨_, rfl⟩
          obtain ⟨j, rfl, hj, hbel⟩ := hrel
          have BI := Lib.hid hbel
          have KI := Lib.hid (KB.out.after hbel)
          clear hbel
          by_cases hlt : j < 3
          · obtain ⟨Ai, ni, ci, li, hcell, hli, hni⟩ : ∃ Ai ni ci li, wi.cell? ⟨bk, j, none⟩ = some (.slice Ai ni ci) ∧ IsSl reqRep wi (· < wi.heap.size) Ai ni li ∧ ni ≤ 1000000 := by
              rcases (show j = 0 ∨ j = 1 ∨ j = 2 by omega) with rfl | rfl | rfl
              · exact ⟨A, n, c, l, KI.out.1 0 _ rfl, HL2.out.af BI.out, by omega⟩
              · exact ⟨A7, n7, c7, acc, KI.out.1 1 _ rfl, HA2.out.af BI.out, by omega⟩
              · exact ⟨A7, n7, c7, acc, KI.out.1 2 _ rfl, HA2.out.af BI.out, by omega⟩
            have HLI := Lib.hid hli
            have hd1 : decide ((j : Int) < 3) = true := decide_eq_true (by omega)
            have hji : (j : Int) < 3 := by omega
            have hj0 : (0 : Int) ≤ (j : Int) := by omega
            clear hli
            by_cases hj2 : j = 2
            case' pos => (subst hj2; go_upto_region 17 with (first
              | (go_at_call 19; rw [HN2.out]; (with_reducible refine (mod_any _ _ _ hN3 hN4).mono ?_); rintro e w' ⟨rfl, rfl⟩)
              | (go_at_call 19; (with_reducible refine (mod_any _ 65 _ (by omega) (by omega)).mono ?_); rintro e w' ⟨rfl, rfl⟩)
              | (go_at_call 17; (with_reducible refine (big_any _ _ _ (by omega) (by omega)).mono ?_); rintro e w' ⟨rfl, rfl⟩)
              | fail))
            case' neg => (have hd2 : decide ((j : Int) = 2) = false := decide_eq_false (by omega); have hd3 : ((j : Int) == 2) = false := (by simp; omega); go_upto_region 17 with fail)
            all_goals
              go_upto_region 19 with (first
                | (go_at_call 25; (with_reducible refine (muxNew_any _ _ _ _ Ai ni ci li _ HLI.out hni).mono ?_); rintro e w3 hp; obtain ⟨pv, ev, rfl, hp, bel3⟩ := hp.val; have HP3 := Lib.hid hp; have B3 := Lib.hid bel3; clear hp bel3)
                | (go_at_call 41; (with_reducible refine (refNewMux_any _ _ _ _ Ai ni ci li _ (HLI.out.af B3.out) hni).mono ?_); rintro e w4 hp; obtain ⟨pv2, rfl, hp, bel4⟩ := hp.val; have HP4 := Lib.hid hp; have B4 := Lib.hid (bel_n B3.out bel4); have C4 := Lib.hid bel4; clear hp bel4)
                | fail)
              rcases HP3.out with ⟨ok, hev, gm, g, hpv, m3⟩ | ⟨no, hev, hpv⟩
              · rcases HP4.out with ⟨ok2, T, gx, gw, hpv2, r4⟩ | ⟨no2, hpv2⟩
                · have M4 := Lib.hid (m3.below C4.out)
                  have R4 := Lib.hid r4
                  have HFN := Lib.hid (fine_new ok)
                  clear HP3 HP4 ok ok2 m3 r4
                  subst hev hpv hpv2
                  go_wp2_with (first
                    | (go_at_call 42; (with_reducible refine (alike27_any _ T gm g gx gw _ _ M4.out R4.out HFN.out).mono ?_); rintro e w5 ⟨rfl, bel5⟩; have B5 := Lib.hid (bel_n B4.out bel5); clear bel5)
                    | fail)
                  go_roundw
                  case rel => first | exact ⟨j + 1, by go_num, by omega, bel_n BI.out B5.out⟩ | exact ⟨3, by go_num, by omega, bel_n BI.out B5.out⟩
                  case measure => simp [intOf]; try omega
                · exact absurd (ok.symm.trans no2) (by decide)
              · rcases HP4.out with ⟨ok2, T, gx, gw, hpv2, r4⟩ | ⟨no2, hpv2⟩
                · exact absurd (ok2.symm.trans no) (by decide)
                · clear HP3 HP4 no no2
                  subst hev hpv hpv2
                  go_wp2
                  go_roundw
                  case rel => first | exact ⟨j + 1, by go_num, by omega, bel_n BI.out B4.out⟩ | exact ⟨3, by go_num, by omega, bel_n BI.out B4.out⟩
                  case measure => simp [intOf]; try omega
          · obtain rfl : j = 3 := by omega
            go_wp2_with (first
              | (go_at_call 36; (with_reducible refine (awake27_any wi).mono ?_); rintro e w9 ⟨rfl, bel9⟩; have B9 := Lib.hid bel9; clear bel9)
              | fail)
            go_ret
            exact ⟨rfl, BB.out.trans ((bel_n BI.out B9.out).mono BB.out.size)⟩
end Go.Proofs.Ythhpddiicnjmmaa
