/- The walk of the law WindowTruth. -/
import Derived.Test.YtojjeogpggielaaTri
import Derived.Test.YtojjeogpggielaaMapB
import Derived.Test.YtojjeogpggielaaPlT
set_option linter.unusedVariables false
set_option linter.unusedSimpArgs false
namespace Go.Proofs.Ytojjeogpggielaa
open Go.RowKit

theorem play1_fine (m : Nat) (l : List Chg) : (∀ c ∈ playChgs 1 m l, c.table = 0) ∧ (∀ c ∈ playChgs 1 m l, 1 ≤ c.key ∧ c.key ≤ 1099511627776) ∧ (playChgs 1 m l).length ≤ m := by
  refine ⟨fun c hc => ?_, fun c hc => ?_, by unfold playChgs; rw [List.length_map, List.length_take]; omega⟩
  · obtain ⟨d, _, rfl⟩ := List.mem_map.1 hc
    have := modOf_range d.table 1 (by omega)
    show modOf d.table 1 = 0
    omega
  · obtain ⟨d, _, rfl⟩ := List.mem_map.1 hc
    have h := playChg_may (c := d) 1 (by omega)
    have h2 := of_decide_eq_true h
    exact ⟨h2.2.2.1, h2.2.2.2.1⟩

theorem tw_shut {w0 w : World} {S : Nat → Prop} {g : Nat} {x : Win} (h : WS w0 w S g x) (hs : x.state = 2) :
    Calls Try.prog 25 #[.pointer (some ⟨g, 0, none⟩)] w fun e w' => e = .returned (.bool true) ∧ WS w0 w' S g { x with state := 3 } ∧ Rest S w w' := by
  refine (ws_shut h).mono ?_
  rintro e w' ⟨rfl, o, r⟩
  unfold Win.shut at o
  rw [if_pos hs] at o
  exact ⟨by rw [decide_eq_true hs], o, r⟩
theorem tw_low {w0 w : World} {S : Nat → Prop} {g : Nat} {x : Win} (h : WS w0 w S g x) (mark : Int) (hs : x.state = 3) (hm : mark = x.mark) :
    Calls Try.prog 26 #[.pointer (some ⟨g, 0, none⟩), .int .i64 mark] w fun e w' => e = .returned (.bool true) ∧ WS w0 w' S g { x with state := 4 } ∧ Rest S w w' := by
  refine (ws_low h mark).mono ?_
  rintro e w' ⟨rfl, o, r⟩
  unfold Win.low at o
  rw [if_pos ⟨hs, hm⟩] at o
  exact ⟨by rw [decide_eq_true ⟨hs, hm⟩], o, r⟩
theorem rising_lastT : ∀ (l : List Row) (k : Int), rising k l = true → k ≤ lastKey l k ∧ (lastKey l k = k ∨ lastKey l k ≤ 1099511627776)
  | [], k, _ => by rw [lastKey_nil]; exact ⟨Int.le_refl _, .inl rfl⟩
  | r :: t, k, h => by
    rw [rising, Bool.and_eq_true] at h
    have h1 := of_decide_eq_true h.1
    have h2 := rising_lastT t r.key h.2
    rw [lastKey_cons]
    exact ⟨by omega, .inr (by omega)⟩
theorem allL_len : ∀ (l : List Chg) (L : List Row), (allL L l).length ≤ L.length + l.length
  | [], _ => Nat.le_refl _
  | c :: t, L => by
    have h1 := allL_len t (oneL L c)
    have h2 : (oneL L c).length ≤ L.length + 1 := by
      unfold oneL
      split
      · have := delL_len L c.key; omega
      · exact putL_len L c.key c.val
    show (allL (oneL L c) t).length ≤ _
    rw [List.length_cons]
    omega

theorem info_chgW : (Try.prog.info? 53).map (fun i => (i.zero, i.size, i.bytes)) = some (some (.agg #[.int .i64 0, .int .i64 0, .bool false, .string ByteArray.empty]), 4, 40) := by kernel_rfl
theorem any_key_false {α : Type} {f : α → Int} {l : List α} {k : Int} (h : (l.map f).any (· == k) = false) : ∀ x ∈ l, ¬ f x = k := by
  intro x hx e
  have h2 : (l.map f).any (· == k) = true := List.any_eq_true.2 ⟨f x, List.mem_map.2 ⟨x, hx, rfl⟩, by simpa using e⟩
  rw [h] at h2
  cases h2
theorem tw_last {L1 L2 r : List Row} {cb cc : List Chg} {ops : List Opr} {fr : Int} {k : Nat} (hr : r = afterL L1 fr k) (hl2 : L2 = allL L1 cc) (ho : ops = (leftL cb cc r).map (opOf 9 0)) (hb : ∀ x ∈ cb, x.table = 0) (hc : ∀ x ∈ cc, x.table = 0) (hk : 0 < k) (hs : Srt L1) {y : Row} (hy : y ∈ L2) (h1 : fr < y.key) (h2 : y.key ≤ lastKey r fr ∨ (r.length : Int) < (k : Int)) (h3 : (ops.map (·.key)).any (· == y.key) = false) (h4 : ((cb ++ cc).map (·.key)).any (· == y.key) = false) : False := by
  have g3 := any_key_false h3
  have g4 := any_key_false h4
  subst hr
  refine told_all L1 cb cc hb hc fr k hk hs y (hl2 ▸ hy) h1 (h2.imp id (by omega)) (fun x hx e => ?_) (fun x hx e => g4 x hx e)
  exact g3 (opOf 9 0 x) (by rw [ho]; exact List.mem_map.2 ⟨x, hx, rfl⟩) e
theorem IsSl.rowT {w w' : World} {T : Nat → Prop} {n k : Nat} {A : Option Addr} {l : List Row} (h : IsSl rowRep w T A n l) (hk : k < n) (hw : ∀ p : Addr, T p.block → w'.cell? p = w.cell? p) :
    ∃ b off x, A = some ⟨b, off, none⟩ ∧ T b ∧ l[k]? = some x ∧ x.wf ∧ w'.cell? ⟨b, off + k * 2, none⟩ = some (.int .i64 x.key) ∧ w'.cell? ⟨b, off + k * 2 + 1, none⟩ = some (.string x.val) := by
  obtain ⟨b, off, x, cs, rfl, hb, hx, ⟨rfl, hw2⟩, hc⟩ := h.at_ hk
  exact ⟨b, off, x, rfl, hb, hx, hw2, (hw _ hb).trans (hc 0 _ rfl), (hw _ hb).trans (hc 1 _ rfl)⟩
theorem IsSl.chgK {w w' : World} {T : Nat → Prop} {n k : Nat} {A : Option Addr} {l : List Chg} (h : IsSl chgRep w T A n l) (hk : k < n) (hw : ∀ p : Addr, T p.block → w'.cell? p = w.cell? p) :
    ∃ b off x, A = some ⟨b, off, none⟩ ∧ T b ∧ l[k]? = some x ∧ x.wf ∧ w'.cell? ⟨b, off + k * 4, none⟩ = some (.int .i64 x.table) ∧ w'.cell? ⟨b, off + k * 4 + 1, none⟩ = some (.int .i64 x.key) ∧ w'.cell? ⟨b, off + k * 4 + 2, none⟩ = some (.bool x.gone) ∧ w'.cell? ⟨b, off + k * 4 + 3, none⟩ = some (.string x.val) := by
  obtain ⟨b, off, x, cs, rfl, hb, hx, ⟨rfl, hw2⟩, hc⟩ := h.at_ hk
  exact ⟨b, off, x, rfl, hb, hx, hw2, (hw _ hb).trans (hc 0 _ rfl), (hw _ hb).trans (hc 1 _ rfl), (hw _ hb).trans (hc 2 _ rfl), (hw _ hb).trans (hc 3 _ rfl)⟩

set_option maxHeartbeats 16000000 in
set_option maxRecDepth 100000 in
theorem windowTruth_walk (w : World) (n : Int) (hn : I64 n) (A1 : Option Addr) (n1 c1 : Nat) (l1 : List Chg) (h1 : IsSl chgRep w (· < w.heap.size) A1 n1 l1) (hc1 : n1 ≤ c1) (hm1 : c1 ≤ maxLen) (A2 : Option Addr) (n2 c2 : Nat) (l2 : List Chg) (h2 : IsSl chgRep w (· < w.heap.size) A2 n2 l2) (hc2 : n2 ≤ c2) (hm2 : c2 ≤ maxLen) (A3 : Option Addr) (n3 c3 : Nat) (l3 : List Chg) (h3 : IsSl chgRep w (· < w.heap.size) A3 n3 l3) (hc3 : n3 ≤ c3) (hm3 : c3 ≤ maxLen) (after : Int) (ha : I64 after) :
    Calls Try.prog 3 #[.int .i64 n, .slice A1 n1 c1, .slice A2 n2 c2, .slice A3 n3 c3, .int .i64 after] w fun e w' => e = .returned (.bool true) ∧ Below w.heap.size w w' := by
  have H1 := Lib.hid h1
  have H2 := Lib.hid h2
  have H3 := Lib.hid h3
  obtain ⟨m0, hm0⟩ : ∃ m0, m0 = modOf n 6 := ⟨_, rfl⟩
  have hrm := modOf_range n 6 (by omega)
  rw [← hm0] at hrm
  obtain ⟨hm00, hm01⟩ := hrm
  have HM0 := Lib.hid hm0
  obtain ⟨k, hk⟩ := Int.eq_ofNat_of_zero_le (show 0 ≤ 1 + m0 by omega)
  have HK := Lib.hid (show (1 : Int) + m0 = (k : Int) from hk)
  have hk1 : 1 ≤ k := by omega
  have hk2 : k ≤ 6 := by omega
  have HK1 := Lib.hid (show (1 : Int) ≤ (k : Int) ∧ (k : Int) ≤ 64 by omega)
  obtain ⟨fr, hfr⟩ : ∃ fr, fr = modOf after 8 := ⟨_, rfl⟩
  have hfrr := modOf_range after 8 (by omega)
  rw [← hfr] at hfrr
  obtain ⟨hf0, hf1⟩ := hfrr
  have HFR := Lib.hid hfr
  obtain ⟨ca, hca⟩ : ∃ ca, ca = playChgs 1 20 l1 := ⟨_, rfl⟩
  obtain ⟨cb, hcb⟩ : ∃ cb, cb = playChgs 1 6 l2 := ⟨_, rfl⟩
  obtain ⟨cc, hcc⟩ : ∃ cc, cc = playChgs 1 6 l3 := ⟨_, rfl⟩
  have FA := Lib.hid (play1_fine 20 l1)
  have FB := Lib.hid (play1_fine 6 l2)
  have FC := Lib.hid (play1_fine 6 l3)
  rw [← hca] at FA
  rw [← hcb] at FB
  rw [← hcc] at FC
  have HCA := Lib.hid hca
  have HCB := Lib.hid hcb
  have HCC := Lib.hid hcc
  have hmm := @run_makeMap Try.prog
  obtain ⟨g, hg⟩ : ∃ g, g = w.heap.size := ⟨_, rfl⟩
  have HG := Lib.hid hg
  clear hm0 hk hfr hca hcb hcc hg hn ha h1 h2 h3
  obtain ⟨i0, hi, hz0, hz1, hz2⟩ := info_parts info_chgW
  go_enter Try.func3, Try.ntmps3
  go_upto_region 6 with (first
    | (go_at_call 15; (with_reducible refine (mod_any n 6 _ (by omega) (by omega)).mono ?_); rintro e w' ⟨rfl, rfl⟩; rw [← HM0.out])
    | (go_at_call 16; (rw [HK.out]); (with_reducible refine (ws_new (k : Int) w HK1.out.1 HK1.out.2).mono ?_); rintro e w1 ⟨rfl, ws1⟩; rw [← HG.out] at ws1 ⊢; have W1 := Lib.hid ws1; clear ws1)
    | (go_at_call 17; (with_reducible refine (refnewset1_any w1).mono ?_); rintro e w2 ⟨gs, bt, rfl, st, hgs, hbt, bel⟩; have ST2 := Lib.hid st; have HGS := Lib.hid (And.intro hgs hbt); have B2 := Lib.hid bel; clear st hgs hbt bel)
    | fail)
  obtain ⟨S2, hS2⟩ : ∃ S2 : Nat → Prop, S2 = (fun i => i < g ∨ (w1.heap.size ≤ i ∧ i < w2.heap.size)) := ⟨_, rfl⟩
  have T2 := Lib.hid (show Tri w w2 S2 g gs bt (win0 (k : Int)) [] by
    rw [hS2]
    have h1 := ST2.out.lt
    exact ⟨W1.out.step B2.out, ⟨fun _ => False, ST2.out, fun _ h => h.elim⟩, ⟨.inr ⟨HGS.out.1, h1.1⟩, .inr ⟨HGS.out.2, h1.2⟩⟩, Nat.le_trans W1.out.bel.size HGS.out.2⟩)
  clear hS2
  have G2 := Lib.hid (show IsSl chgRep w2 (· < w2.heap.size) A1 n1 l1 from (H1.out.below T2.out.win.bel).more T2.out.win.bel.size)
  have hbt2 := T2.out.win.hS _ T2.out.inS.2
  have HS2g := Lib.hid (show ∀ i, i < w.heap.size → S2 i from T2.out.win.base)
  go_upto_region 8 with (first
    | (go_at_call 18; (with_reducible refine (playChanges_any A1 n1 c1 l1 1 (by omega) (by omega) 20 20 rfl (by omega) w2 G2.out).mono ?_); rintro e w3 ⟨v3, rfl, own3, bel3⟩; rw [← HCA.out] at own3; obtain ⟨Aa, ka, rfl⟩ := own3.form; obtain ⟨na, hna⟩ : ∃ na, na = ca.length := ⟨_, rfl⟩; rw [← hna] at own3 ⊢; have HNA := Lib.hid hna; obtain ⟨S3, hS3⟩ : ∃ S3 : Nat → Prop, S3 = (fun i => S2 i ∨ (w2.heap.size ≤ i ∧ i < w3.heap.size)) := ⟨_, rfl⟩; have T3 := Lib.hid (show Tri w w3 S3 g gs bt (win0 (k : Int)) [] by rw [hS3]; exact T2.out.below bel3); have LA3 := Lib.hid (show Bes chgRep w3 S3 bt Aa na ca by rw [hS3]; exact Bes.ofOwn own3 hbt2 (fun i h1 h2 => .inr ⟨h1, h2⟩)); have hbt3 : bt < w3.heap.size := Nat.lt_of_lt_of_le hbt2 bel3.size; have G3 := Lib.hid (show IsSl chgRep w3 (· < w3.heap.size) A2 n2 l2 from (H2.out.below T3.out.win.bel).more T3.out.win.bel.size); clear own3 bel3 hna hS3)
    | (go_at_call 18; (with_reducible refine (playChanges_any A2 n2 c2 l2 1 (by omega) (by omega) 6 6 rfl (by omega) w3 G3.out).mono ?_); rintro e w4 ⟨v4, rfl, own4, bel4⟩; rw [← HCB.out] at own4; obtain ⟨Ab, kb, rfl⟩ := own4.form; obtain ⟨nb, hnb⟩ : ∃ nb, nb = cb.length := ⟨_, rfl⟩; rw [← hnb] at own4 ⊢; have HNB := Lib.hid hnb; obtain ⟨S4, hS4⟩ : ∃ S4 : Nat → Prop, S4 = (fun i => S3 i ∨ (w3.heap.size ≤ i ∧ i < w4.heap.size)) := ⟨_, rfl⟩; have T4 := Lib.hid (show Tri w w4 S4 g gs bt (win0 (k : Int)) [] by rw [hS4]; exact T3.out.below bel4); have LA4 := Lib.hid (show Bes chgRep w4 S4 bt Aa na ca by rw [hS4]; exact LA3.out.below T3.out.win.hS bel4 (fun i h => .inl h)); have LB4 := Lib.hid (show Bes chgRep w4 S4 bt Ab nb cb by rw [hS4]; exact Bes.ofOwn own4 hbt3 (fun i h1 h2 => .inr ⟨h1, h2⟩)); have hbt4 : bt < w4.heap.size := Nat.lt_of_lt_of_le hbt3 bel4.size; have G4 := Lib.hid (show IsSl chgRep w4 (· < w4.heap.size) A3 n3 l3 from (H3.out.below T4.out.win.bel).more T4.out.win.bel.size); clear own4 bel4 hnb hS4)
    | (go_at_call 18; (with_reducible refine (playChanges_any A3 n3 c3 l3 1 (by omega) (by omega) 6 6 rfl (by omega) w4 G4.out).mono ?_); rintro e w5 ⟨v5, rfl, own5, bel5⟩; rw [← HCC.out] at own5; obtain ⟨Ac, kc, rfl⟩ := own5.form; obtain ⟨nc, hnc⟩ : ∃ nc, nc = cc.length := ⟨_, rfl⟩; rw [← hnc] at own5 ⊢; have HNC := Lib.hid hnc; obtain ⟨S5, hS5⟩ : ∃ S5 : Nat → Prop, S5 = (fun i => S4 i ∨ (w4.heap.size ≤ i ∧ i < w5.heap.size)) := ⟨_, rfl⟩; have T5 := Lib.hid (show Tri w w5 S5 g gs bt (win0 (k : Int)) [] by rw [hS5]; exact T4.out.below bel5); have LA5 := Lib.hid (show Bes chgRep w5 S5 bt Aa na ca by rw [hS5]; exact LA4.out.below T4.out.win.hS bel5 (fun i h => .inl h)); have LB5 := Lib.hid (show Bes chgRep w5 S5 bt Ab nb cb by rw [hS5]; exact LB4.out.below T4.out.win.hS bel5 (fun i h => .inl h)); have LC5 := Lib.hid (show Bes chgRep w5 S5 bt Ac nc cc by rw [hS5]; exact Bes.ofOwn own5 hbt4 (fun i h1 h2 => .inr ⟨h1, h2⟩)); clear own5 bel5 hnc hS5)
    | (go_at_call 19; (with_reducible refine (big_any after 8 _ (by omega) (by omega)).mono ?_); rintro e w' ⟨rfl, rfl⟩; rw [← HFR.out])
    | fail)
  obtain ⟨L0, hL0⟩ : ∃ L0, L0 = allL [] ca := ⟨_, rfl⟩
  obtain ⟨L1, hL1⟩ : ∃ L1, L1 = allL L0 cb := ⟨_, rfl⟩
  obtain ⟨L2, hL2⟩ : ∃ L2, L2 = allL L1 cc := ⟨_, rfl⟩
  obtain ⟨r, hr⟩ : ∃ r, r = afterL L1 fr k := ⟨_, rfl⟩
  have hnil : Srt ([] : List Row) := List.Pairwise.nil
  have SR1 := Lib.hid (show Srt L1 by rw [hL1, hL0]; exact srt_allL _ _ (srt_allL _ _ hnil))
  have KI1 := Lib.hid (show KeysIn L1 by rw [hL1, hL0]; exact keys_allL _ _ (srt_allL _ _ hnil) (keys_allL _ _ hnil (fun x hx => absurd hx (by simp)) FA.out.2.1) FB.out.2.1)
  have hna : na ≤ 20 := by rw [HNA.out]; exact FA.out.2.2
  have hnb : nb ≤ 6 := by rw [HNB.out]; exact FB.out.2.2
  have hnc : nc ≤ 6 := by rw [HNC.out]; exact FC.out.2.2
  have hl0 : L0.length ≤ 20 := by rw [hL0]; have h1 := allL_len ca []; have h2 := FA.out.2.2; simp at h1; omega
  have hl1 : L1.length ≤ 26 := by rw [hL1]; have h1 := allL_len cb L0; have h2 := FB.out.2.2; omega
  have hl2 : L2.length ≤ 32 := by rw [hL2]; have h1 := allL_len cc L1; have h2 := FC.out.2.2; omega
  have hlr : r.length ≤ k := by rw [hr]; exact afterL_len _ _ _
  have HLL := Lib.hid (show ([] : List Row).length + na ≤ 100000 ∧ L0.length + nb ≤ 100000 ∧ L1.length + nc ≤ 100000 ∧ L1.length ≤ 100000 ∧ r.length ≤ 100000 ∧ nb ≤ 1000000 ∧ nc ≤ 1000000 ∧ L2.length ≤ 100000 from ⟨by simp; omega, by omega, by omega, by omega, by omega, by omega, by omega, by omega⟩)
  have HL0 := Lib.hid hL0
  have HL1 := Lib.hid hL1
  have HL2 := Lib.hid hL2
  have HR := Lib.hid hr
  have HRI := Lib.hid (show rising fr r = true by rw [hr]; exact afterL_rising _ _ _ SR1.out KI1.out)
  have HO := Lib.hid (show (win0 (k : Int)).openOk 3 1 0 fr = true ∧ (win0 (k : Int)).opened 3 1 0 fr = (⟨3, fr, 1, 0, [], 0, false, (k : Int), 1⟩ : Win) by
    have h : (win0 (k : Int)).openOk 3 1 0 fr = true := decide_eq_true ⟨rfl, by omega, by omega, by omega, by omega, by omega, by omega, by omega, by omega⟩
    exact ⟨h, if_pos h⟩)
  have HF := Lib.hid (show (⟨3, fr, 1, 0, [], 0, false, (k : Int), 1⟩ : Win).fillOk r = true ∧ (⟨3, fr, 1, 0, [], 0, false, (k : Int), 1⟩ : Win).filled r = (⟨3, fr, 1, 0, r, (lastKey r fr), decide ((r.length : Int) < (k : Int)), (k : Int), 2⟩ : Win) by
    have h : (⟨3, fr, 1, 0, [], 0, false, (k : Int), 1⟩ : Win).fillOk r = true := by
      unfold Win.fillOk
      have h1 := HRI.out
      dsimp only
      rw [h1, decide_eq_true ⟨rfl, by omega⟩]
      rfl
    exact ⟨h, if_pos h⟩)
  have HS5 := Lib.hid (show (⟨3, fr, 1, 0, r, (lastKey r fr), decide ((r.length : Int) < (k : Int)), (k : Int), 4⟩ : Win).see cb = (⟨3, fr, 1, 0, seeL 0 cb r, (lastKey r fr), decide ((r.length : Int) < (k : Int)), (k : Int), 4⟩ : Win) from if_pos rfl)
  have HS6 := Lib.hid (show (⟨3, fr, 1, 0, seeL 0 cb r, (lastKey r fr), decide ((r.length : Int) < (k : Int)), (k : Int), 4⟩ : Win).see cc = (⟨3, fr, 1, 0, leftL cb cc r, (lastKey r fr), decide ((r.length : Int) < (k : Int)), (k : Int), 4⟩ : Win) from if_pos rfl)
  have HH := Lib.hid (show (⟨3, fr, 1, 0, leftL cb cc r, (lastKey r fr), decide ((r.length : Int) < (k : Int)), (k : Int), 4⟩ : Win).highOk 3 9 = true ∧ (⟨3, fr, 1, 0, leftL cb cc r, (lastKey r fr), decide ((r.length : Int) < (k : Int)), (k : Int), 4⟩ : Win).tell 3 9 = ⟨9, (leftL cb cc r).map (opOf 9 0), [⟨2, 1, 0, 0, 0, lastKey r fr, decide ((r.length : Int) < (k : Int))⟩]⟩ ∧ (⟨3, fr, 1, 0, leftL cb cc r, (lastKey r fr), decide ((r.length : Int) < (k : Int)), (k : Int), 4⟩ : Win).told 3 9 = win0 (k : Int) by
    have h : (⟨3, fr, 1, 0, leftL cb cc r, (lastKey r fr), decide ((r.length : Int) < (k : Int)), (k : Int), 4⟩ : Win).highOk 3 9 = true := decide_eq_true ⟨rfl, rfl, by omega, by omega⟩
    exact ⟨h, if_pos h, if_pos h⟩)
  have HSL := Lib.hid (show (seeL 0 cb r).length ≤ 100000 ∧ (leftL cb cc r).length ≤ 100000 by
    have h1 := seeL_len 0 cb r
    have h2 := seeL_len 0 cc (seeL 0 cb r)
    unfold leftL
    exact ⟨by omega, by omega⟩)
  have HI64 := Lib.hid (show I64 1 ∧ I64 0 ∧ I64 (lastKey r fr) by
    have h1 := rising_lastT r fr HRI.out
    exact ⟨⟨by omega, by omega⟩, ⟨by omega, by omega⟩, ⟨by omega, by omega⟩⟩)
  have hb5 := T5.out.win.hS _ T5.out.inS.2
  clear hL0 hL1 hL2 hr hnil hna hnb hnc hl0 hl1 hl2
  go_upto_region 11 with (first
    | (go_at_call 20; (with_reducible refine (tr_apply T5.out ka ca LA5.out FA.out.1 HLL.out.1).mono ?_); rintro e w6 ⟨rfl, S6, t6, hs6, gr6⟩; rw [← HL0.out] at t6; have T6 := Lib.hid t6; have LB6 := Lib.hid (LB5.out.setStep T5.out.win.hS gr6 hs6); have LC6 := Lib.hid (LC5.out.setStep T5.out.win.hS gr6 hs6); clear t6 hs6 gr6)
    | (go_at_call 21; (with_reducible refine (ws_open T6.out.win 3 1 0 fr).mono ?_); rintro e w7 ⟨rfl, ws, rs⟩; rw [HO.out.1]; rw [HO.out.2] at ws; have T7 := Lib.hid (T6.out.winStep ws rs); have LB7 := Lib.hid (LB6.out.winStep rs); have LC7 := Lib.hid (LC6.out.winStep rs); clear ws rs)
    | (go_at_call 20; (with_reducible refine (tr_apply T7.out kb cb LB7.out FB.out.1 HLL.out.2.1).mono ?_); rintro e w8 ⟨rfl, S8, t8, hs8, gr8⟩; rw [← HL1.out] at t8; have T8 := Lib.hid t8; have LB8 := Lib.hid (LB7.out.setStep T7.out.win.hS gr8 hs8); have LC8 := Lib.hid (LC7.out.setStep T7.out.win.hS gr8 hs8); clear t8 hs8 gr8)
    | fail)
  have hb8 := T8.out.win.hS _ T8.out.inS.2
  go_upto_region 12 with (first
    | (go_at_call 23; (with_reducible refine (tr_rows T8.out HLL.out.2.2.2.1).mono ?_); rintro e w9 ⟨v9, rfl, own9, bel9⟩; obtain ⟨A9, k9, rfl⟩ := own9.form; obtain ⟨n9, hn9⟩ : ∃ n9, n9 = L1.length := ⟨_, rfl⟩; rw [← hn9] at own9 ⊢; obtain ⟨S9, hS9⟩ : ∃ S9 : Nat → Prop, S9 = (fun i => S8 i ∨ (w8.heap.size ≤ i ∧ i < w9.heap.size)) := ⟨_, rfl⟩; have T9 := Lib.hid (show Tri w w9 S9 g gs bt (⟨3, fr, 1, 0, [], 0, false, (k : Int), 1⟩ : Win) L1 by rw [hS9]; exact T8.out.below bel9); have LB9 := Lib.hid (show Bes chgRep w9 S9 bt Ab nb cb by rw [hS9]; exact LB8.out.below T8.out.win.hS bel9 (fun i h => .inl h)); have LC9 := Lib.hid (show Bes chgRep w9 S9 bt Ac nc cc by rw [hS9]; exact LC8.out.below T8.out.win.hS bel9 (fun i h => .inl h)); have SL9 := Lib.hid (own9.slIn (S' := fun i => i < w9.heap.size) (fun i h1 h2 => h2)); have hn9l : n9 ≤ 100000 := (by rw [hn9]; exact HLL.out.2.2.2.1); have hb9 : bt < w9.heap.size := Nat.lt_of_lt_of_le hb8 bel9.size; clear own9 bel9 hn9 hS9)
    | (go_at_call 22; (with_reducible refine (refafter_any A9 n9 k9 L1 fr k (k : Int) rfl w9 (fun i => i < w9.heap.size) (fun _ h => h) SL9.out hn9l).mono ?_); rintro e w10 ⟨v10, rfl, own10, bel10⟩; rw [← HR.out] at own10; obtain ⟨Ar, kr, rfl⟩ := own10.form; obtain ⟨nr, hnr⟩ : ∃ nr, nr = r.length := ⟨_, rfl⟩; rw [← hnr] at own10 ⊢; have HNR := Lib.hid hnr; obtain ⟨S10, hS10⟩ : ∃ S10 : Nat → Prop, S10 = (fun i => S9 i ∨ (w9.heap.size ≤ i ∧ i < w10.heap.size)) := ⟨_, rfl⟩; have T10 := Lib.hid (show Tri w w10 S10 g gs bt (⟨3, fr, 1, 0, [], 0, false, (k : Int), 1⟩ : Win) L1 by rw [hS10]; exact T9.out.below bel10); have LB10 := Lib.hid (show Bes chgRep w10 S10 bt Ab nb cb by rw [hS10]; exact LB9.out.below T9.out.win.hS bel10 (fun i h => .inl h)); have LC10 := Lib.hid (show Bes chgRep w10 S10 bt Ac nc cc by rw [hS10]; exact LC9.out.below T9.out.win.hS bel10 (fun i h => .inl h)); have LR10 := Lib.hid (show Bes rowRep w10 S10 bt Ar nr r by rw [hS10]; exact Bes.ofOwn own10 hb9 (fun i h1 h2 => .inr ⟨h1, h2⟩)); have hnrm : nr ≤ maxLen := (by simp only [maxLen]; omega); clear own10 bel10 hnr hS10)
    | fail)
  go_upto_region 14 with (first
    | (go_at_call 24; (with_reducible refine (ws_fill T10.out.win Ar nr kr r LR10.out.sl HK1.out.2 hnrm).mono ?_); rintro e w11 ⟨rfl, ws, rs⟩; rw [HF.out.1]; rw [HF.out.2] at ws; have T11 := Lib.hid (T10.out.winStep ws rs); have LB11 := Lib.hid (LB10.out.winStep rs); have LC11 := Lib.hid (LC10.out.winStep rs); clear ws rs)
    | (go_at_call 25; (with_reducible refine (tw_shut T11.out.win rfl).mono ?_); rintro e w12 ⟨rfl, ws, rs⟩; have T12 := Lib.hid (T11.out.winStep ws rs); have LB12 := Lib.hid (LB11.out.winStep rs); have LC12 := Lib.hid (LC11.out.winStep rs); clear ws rs)
    | (go_at_call 26; (with_reducible refine (tw_low T12.out.win 3 rfl rfl).mono ?_); rintro e w13 ⟨rfl, ws, rs⟩; have T13 := Lib.hid (T12.out.winStep ws rs); have LB13 := Lib.hid (LB12.out.winStep rs); have LC13 := Lib.hid (LC12.out.winStep rs); clear ws rs)
    | fail)
  go_upto_region 18 with (first
    | (go_at_call 20; (with_reducible refine (tr_apply T13.out kc cc LC13.out FC.out.1 HLL.out.2.2.1).mono ?_); rintro e w14 ⟨rfl, S14, t14, hs14, gr14⟩; rw [← HL2.out] at t14; have T14 := Lib.hid t14; have LB14 := Lib.hid (LB13.out.setStep T13.out.win.hS gr14 hs14); have LC14 := Lib.hid (LC13.out.setStep T13.out.win.hS gr14 hs14); clear t14 hs14 gr14)
    | (go_at_call 27; (with_reducible refine (ws_see T14.out.win Ab nb kb cb LB14.out.sl HLL.out.2.2.2.2.1 HLL.out.2.2.2.2.2.1).mono ?_); rintro e w15 ⟨rfl, ws, rs⟩; rw [HS5.out] at ws; have T15 := Lib.hid (T14.out.winStep ws rs); have LB15 := Lib.hid (LB14.out.winStep rs); have LC15 := Lib.hid (LC14.out.winStep rs); clear ws rs)
    | (go_at_call 27; (with_reducible refine (ws_see T15.out.win Ac nc kc cc LC15.out.sl HSL.out.1 HLL.out.2.2.2.2.2.2.1).mono ?_); rintro e w16 ⟨rfl, ws, rs⟩; rw [HS6.out] at ws; have T16 := Lib.hid (T15.out.winStep ws rs); have LB16 := Lib.hid (LB15.out.winStep rs); have LC16 := Lib.hid (LC15.out.winStep rs); clear ws rs)
    | (go_at_call 28; (with_reducible refine (ws_high T16.out.win 3 9 HSL.out.2 HI64.out.1 HI64.out.2.1 HI64.out.2.2).mono ?_); rintro e w17 ⟨Ao, no, ko, An, nn, kn, rfl, s1, s2, ws, rs⟩; rw [HH.out.2.1] at s1 s2; rw [HH.out.2.2] at ws; rw [HH.out.1, HH.out.2.1]; have T17 := Lib.hid (T16.out.winStep ws rs); have LB17 := Lib.hid (LB16.out.winStep rs); have LC17 := Lib.hid (LC16.out.winStep rs); have SO := Lib.hid s1; have SN := Lib.hid s2; clear s1 s2 ws rs)
    | fail)
  obtain ⟨V, hV⟩ : ∃ V, V = w17.alloc (.cells #[.int .i64 9, .slice Ao no ko, .slice An nn kn] 44) := ⟨_, rfl⟩
  have BV : Below w17.heap.size w17 V := by rw [hV]; exact (Below.refl _ _).alloc (Nat.le_refl _) _
  obtain ⟨bx, hbx⟩ : ∃ bx, bx = w17.heap.size := ⟨_, rfl⟩
  have KV := Lib.hid (show Blk V bx [.int .i64 9, .slice Ao no ko, .slice An nn kn] by rw [hV, hbx]; exact Blk.new rfl rfl)
  obtain ⟨U, hst, hUS⟩ := T17.out.set
  have STV := Lib.hid (hst.below BV)
  have BWV := Lib.hid (show Below w.heap.size w V from T17.out.win.bel.trans (BV.mono T17.out.win.bel.size))
  obtain ⟨ops, hops⟩ : ∃ ops, ops = (leftL cb cc r).map (opOf 9 0) := ⟨_, rfl⟩
  rw [← hops] at SO
  have HOPS := Lib.hid hops
  have SOV := Lib.hid (show IsSl oprRep V (· < V.heap.size) Ao no ops from (SO.out.keep (fun p hp => BV.cell hp.2)).weak (fun i hi => Nat.lt_of_lt_of_le hi.2 BV.size))
  obtain rfl : nn = 1 := SN.out.len
  obtain ⟨bn, fn, y, cs, rfl, hbn, hy, ⟨rfl, -⟩, hcs⟩ := SN.out.at_ (k := 0) (by omega)
  obtain rfl := (Option.some.inj hy).symm
  have hn5 : V.cell? ⟨bn, fn + 0 * 7 + 5, none⟩ = some (.int .i64 (lastKey r fr)) := (BV.cell (p := ⟨bn, _, none⟩) hbn.2).trans (hcs 5 _ rfl)
  have hn6 : V.cell? ⟨bn, fn + 0 * 7 + 6, none⟩ = some (.bool (decide ((r.length : Int) < (k : Int)))) := (BV.cell (p := ⟨bn, _, none⟩) hbn.2).trans (hcs 6 _ rfl)
  rw [Nat.zero_mul, Nat.add_zero] at hn5 hn6
  have HBN := Lib.hid (show bn < V.heap.size from Nat.lt_of_lt_of_le hbn.2 BV.size)
  have HN5 := Lib.hid hn5
  have HN6 := Lib.hid hn6
  have LBV := Lib.hid (show IsSl chgRep V (· < V.heap.size) Ab nb cb from (LB17.out.sl.weak (fun i hi => T17.out.win.hS i hi)).below BV |>.more BV.size)
  have LCV := Lib.hid (show IsSl chgRep V (· < V.heap.size) Ac nc cc from (LC17.out.sl.weak (fun i hi => T17.out.win.hS i hi)).below BV |>.more BV.size)
  have hnoL : no ≤ 100000 := by rw [SO.out.len, hops, List.length_map]; exact HSL.out.2
  have hl2m := HLL.out.2.2.2.2.2.2.2
  rw [← hbx, ← hV]
  clear hV hbx BV hst hUS hops hy hcs hbn hn5 hn6
  obtain ⟨v0, v1, v2, vz⟩ := KV.out.c3
  go_upto_region 21 with fail
  obtain ⟨bm, hbm⟩ : ∃ bm, bm = V.heap.size := ⟨_, rfl⟩
  obtain ⟨V1, hV1⟩ : ∃ V1, V1 = V.alloc (.map #[] 0) := ⟨_, rfl⟩
  have SM1 := Lib.hid (show SetM V1 bm [] by rw [hV1, hbm]; exact setM_new V)
  have BV1 := Lib.hid (show Below V.heap.size V V1 by rw [hV1]; exact (Below.refl _ _).alloc (Nat.le_refl _) _)
  have hbmV : V.heap.size ≤ bm := Nat.le_of_eq hbm.symm
  rw [← hbm, ← hV1]
  clear hbm hV1 v0 v1 v2 vz
  have hbxV := KV.out.lt
  have hstV := STV.out.lt
  have k1 := (BV1.out.cell (p := ⟨bx, 1, none⟩) hbxV).trans (KV.out.1 1 _ rfl)
  go_wp2_with fail
  go_loopw [23] (fun i wr => ∃ p : Nat, i = .int .i64 p ∧ p ≤ no ∧ SetM wr bm ((ops.take p).map (·.key)) ∧ Below V.heap.size V wr) (fun i _ => no - (intOf i).toNat)
  case atStart => exact ⟨0, rfl, Nat.zero_le _, SM1.out, BV1.out⟩
  case round =>
    obtain ⟨wr2, rfl⟩ : ∃ x : World, x = wr := ⟨_, rfl⟩
    obtain ⟨p, rfl, hp, hsm, hbel⟩ := hrel
    have SM := Lib.hid hsm
    have BE := Lib.hid hbel
    have hsz := hbel.size
    have k1 := (hbel.cell (p := ⟨bx, 1, none⟩) hbxV).trans (KV.out.1 1 _ rfl)
    clear hsm hbel
    by_cases hlt : p < no
    · have hd : decide ((p : Int) < (no : Int)) = true := decide_eq_true (by omega)
      have hpi : (p : Int) < (no : Int) := by omega
      have hp0 : (0 : Int) ≤ (p : Int) := by omega
      obtain ⟨bo, fo, x, cs, rfl, hbo, hx, ⟨rfl, hwx⟩, hcs⟩ := SOV.out.at_ hlt
      have hxm : x ∈ (leftL cb cc r).map (opOf 9 0) := by rw [← HOPS.out]; exact List.mem_of_getElem? hx
      obtain ⟨y, hy, rfl⟩ := List.mem_map.1 hxm
      have HG := Lib.hid (show getL L2 y.key = some y.val by rw [HL2.out]; exact told_right L1 cb cc FB.out.1 FC.out.1 fr k SR1.out y (by rw [← HR.out]; exact hy))
      have HTK := Lib.hid (show (ops.take (p + 1)).map (·.key) = (ops.take p).map (·.key) ++ [y.key] by rw [take_snoc hx, List.map_append]; rfl)
      have HWK := Lib.hid (show I64 y.key from hwx.2.2.1)
      have HCS := Lib.hid hcs
      have HBO := Lib.hid hbo
      obtain ⟨yk, yv⟩ := y
      dsimp only at HG HTK HWK
      have c2 : wr2.cell? ⟨bo, fo + p * 5 + 2, none⟩ = some (.int .i64 yk) := (BE.out.cell (p := ⟨bo, _, none⟩) hbo).trans (hcs 2 _ rfl)
      have STR := Lib.hid ((STV.out.below BE.out).drew)
      have hL2s : ∀ l ∈ [L2], l.length ≤ 100000 := by intro l hl; rw [List.mem_singleton.1 hl]; exact hl2m
      have HL2s := Lib.hid hL2s
      have HKN := Lib.hid (show ((ops.take p).map (·.key)).length ≤ 100000 by rw [List.length_map, List.length_take]; omega)
      have hkn := HKN.out
      clear hx hwx hxm hy hcs hbo hL2s
      go_wp2_with fail
      go_region_held3 (fun w' => w'.cell? ⟨bx, 1, none⟩ = some (.slice (some ⟨bo, fo, none⟩) no ko) ∧ w'.cell? ⟨bo, fo + p * 5 + 2, none⟩ = some (.int .i64 yk)) (first | exact ⟨k1, c2⟩ | exact HK20.out | fail)
        (first
        | (go_at_call 23; (with_reducible refine (refsetrows_any gs bt U [L2] 0 0 rfl _ STR.out (by simp) (by simp) HL2s.out).mono ?_); rintro e w20 ⟨v20, rfl, own20, bel20⟩; rw [show (([L2] : List (List Row))[0]?).getD [] = L2 from rfl] at own20; obtain ⟨A20, k20, rfl⟩ := own20.form; obtain ⟨n20, hn20⟩ : ∃ n20, n20 = L2.length := ⟨_, rfl⟩; rw [← hn20] at own20 ⊢; have hn20m : n20 ≤ maxLen := (by rw [hn20]; simp only [maxLen]; omega); have SL20 := Lib.hid (own20.slIn (S' := fun _ => True) (fun _ _ _ => trivial)); have B20 := Lib.hid (BE.out.trans ((below_of_drew bel20).mono BE.out.size)); have SM20 := Lib.hid (SM.out.below (below_of_drew bel20)); have HK20 := Lib.hid (show w20.cell? ⟨bx, 1, none⟩ = some (.slice (some ⟨bo, fo, none⟩) no ko) ∧ w20.cell? ⟨bo, fo + p * 5 + 2, none⟩ = some (.int .i64 yk) from ⟨(B20.out.cell (p := ⟨bx, 1, none⟩) hbxV).trans (KV.out.1 1 _ rfl), (B20.out.cell (p := ⟨bo, _, none⟩) HBO.out).trans (HCS.out 2 _ rfl)⟩); clear own20 bel20 hn20)
        | (go_at_call 29; (with_reducible refine (refget_any A20 n20 k20 L2 yk _ (fun _ => True) SL20.out hn20m).mono ?_); rintro e w' ⟨rfl, rfl⟩; rw [HG.out])
        | fail)
      have j1 := HK20.out.1
      have j2 := HK20.out.2
      have j3 := (B20.out.cell (p := ⟨bo, fo + p * 5 + 3, none⟩) HBO.out).trans (HCS.out 3 _ rfl)
      have j4 := (B20.out.cell (p := ⟨bo, fo + p * 5 + 4, none⟩) HBO.out).trans (HCS.out 4 _ rfl)
      (try dsimp only [opOf] at j3 j4)
      go_wp2_with (first
        | (at_mapUpdate; refine wpList_mapUpdate_own _ rfl _ _ _ 47 rfl 2 4 keyed64 Try.underlying47 _ bm _ _ rfl SM20.out (by simp only [maxLen]; omega) _ _ _ rfl rfl (Go.Maps.keyOf_int_mk Try.underlying2 (wf_of_i64 HWK.out)) litT [] (plainElem_bool Try.underlying4 true) ?_; intro w21 own21 gr21; have SM21 := Lib.hid (SetM.put own21); have B21 := Lib.hid (B20.out.grown gr21 B20.out.size (fun k hk => by injection hk with hk; omega)); clear own21 gr21)
        | fail)
      go_roundw
      case rel => exact ⟨p + 1, by go_num, by omega, by rw [HTK.out]; exact SM21.out, B21.out⟩
      case measure => simp [intOf]; omega
    · obtain rfl : no = p := by omega
      have hd : decide ((no : Int) < (no : Int)) = false := by simp
      have HTO := Lib.hid (show (ops.take no).map (·.key) = ops.map (·.key) by rw [List.take_of_length_le (by rw [← SOV.out.len]; exact Nat.le_refl _)])
      rw [HTO.out] at SM
      clear hlt HTO
      go_upto_region 29 with fail
      obtain ⟨bq, hbq⟩ : ∃ bq, bq = wr2.heap.size := ⟨_, rfl⟩
      obtain ⟨V2, hV2⟩ : ∃ V2, V2 = wr2.alloc (.map #[] 0) := ⟨_, rfl⟩
      have SQ := Lib.hid (show SetM V2 bq [] by rw [hV2, hbq]; exact setM_new wr2)
      have BV2 := Lib.hid (show Below wr2.heap.size wr2 V2 by rw [hV2]; exact (Below.refl _ _).alloc (Nat.le_refl _) _)
      have hbqV : bq < V2.heap.size := SQ.out.lt
      have hbq2 : wr2.heap.size ≤ bq := Nat.le_of_eq hbq.symm
      rw [← hbq, ← hV2]
      clear hbq hV2 k1
      have hs2 := BV2.out.size
      have BE2 := Lib.hid (show Below V.heap.size V V2 from BE.out.trans (BV2.out.mono hsz))
      have BEA := Lib.hid (show Below V.heap.size V (V2.alloc (.cells #[] 53)) from BE2.out.alloc BE2.out.size _)
      have SRC1 := Lib.hid (show ∀ S, Src chgRep (V2.alloc (.cells #[] 53)) S Ab nb cb from fun S => LBV.out.srcK flat_chg (fun p hp => BEA.out.cell hp))
      have hnb : nb ≤ 6 := by rw [HNB.out]; exact FB.out.2.2
      have hnc : nc ≤ 6 := by rw [HNC.out]; exact FC.out.2.2
      go_upto_region 30 with (first
        | (at_builtin; refine wpList_append_Own _ rfl _ _ 22 rfl V2.heap.size 53 i0 _ 40 Try.underlying22 hi hz0 hz1 hz2 rfl (R := chgRep) (S := fun _ => False) (l := []) (l' := cb) (.slice (some ⟨V2.heap.size, 0, none⟩) 0 0) rfl (Own.nil _ _ _ (fun _ h => h.elim) _ _) Ab nb kb rfl (SRC1.out _) (by simp [maxLen]; omega) (by simp; omega) (by omega) (by simp) ?_; intro v22 w22 own22 gr22 at22; have bel22 := ((Below.refl V2.heap.size V2).alloc (Nat.le_refl _) (.cells #[] 53)).grown gr22 (by simp) (by intro k hk; simp [rowOf] at hk); simp only [List.nil_append] at own22; obtain ⟨A22, c22, rfl⟩ := own22.form; rw [← HNB.out] at own22 ⊢; have B22 := Lib.hid bel22; have OW22 := Lib.hid own22; have SRC2 := Lib.hid (show ∀ S, Src chgRep w22 S Ac nc cc from fun S => LCV.out.srcK flat_chg (fun p hp => (BE2.out.trans (bel22.mono BE2.out.size)).cell hp)); have hs22 := bel22.size; clear gr22 at22 own22 bel22)
        | (at_builtin; refine wpList_append_Own _ rfl _ _ 22 rfl V2.heap.size 53 i0 _ 40 Try.underlying22 hi hz0 hz1 hz2 rfl (R := chgRep) (S := fun _ => False) (l := cb) (l' := cc) (.slice A22 nb c22) rfl OW22.out Ac nc kc rfl (SRC2.out _) (by rw [← HNB.out]; simp only [maxLen]; omega) (by rw [← HNB.out]; omega) (by omega) hs22 ?_; intro v23 w23 own23 gr23 at23; have bel23 := B22.out.grown gr23 B22.out.size (fun k hk => OW22.out.row_ge hk); obtain ⟨A23, c23, rfl, _, _, sl23⟩ := own23.isSlR; obtain ⟨m23, hm23⟩ : ∃ m23, m23 = (cb ++ cc).length := ⟨_, rfl⟩; rw [← hm23] at sl23 ⊢; have HM23 := Lib.hid hm23; have SL23 := Lib.hid sl23; have B23 := Lib.hid bel23; clear gr23 at23 own23 bel23 sl23 hm23)
        | fail)
      have hm23 : m23 ≤ 12 := by rw [HM23.out, List.length_append, ← HNB.out, ← HNC.out]; omega
      have BW23 := Lib.hid (show Below wr2.heap.size wr2 w23 from BV2.out.trans (B23.out.mono hs2))
      have SQ23 := Lib.hid (SQ.out.below B23.out)
      have hs23 := B23.out.size
      go_wp2_with fail
      go_loopw [163] (fun i wr => ∃ q : Nat, i = .int .i64 q ∧ q ≤ m23 ∧ SetM wr bq (((cb ++ cc).take q).map (·.key)) ∧ Below wr2.heap.size wr2 wr ∧ IsSl chgRep wr (fun k => V2.heap.size ≤ k ∧ k < w23.heap.size) A23 m23 (cb ++ cc) ∧ w23.heap.size ≤ wr.heap.size) (fun i _ => m23 - (intOf i).toNat)
      case atStart => exact ⟨0, rfl, Nat.zero_le _, SQ23.out, BW23.out, SL23.out, Nat.le_refl _⟩
      case round =>
        obtain ⟨wq, rfl⟩ : ∃ x : World, x = wr := ⟨_, rfl⟩
        obtain ⟨q, rfl, hq, hsq, hbq, hslq, hszq⟩ := hrel
        have SQQ := Lib.hid hsq
        have BQ := Lib.hid hbq
        have SLQ := Lib.hid hslq
        have hbs := hbq.size
        clear hsq hbq hslq
        by_cases hlt : q < m23
        · have hd : decide ((q : Int) < (m23 : Int)) = true := decide_eq_true (by omega)
          have hqi : (q : Int) < (m23 : Int) := by omega
          have hq0 : (0 : Int) ≤ (q : Int) := by omega
          obtain ⟨bo, fo, ch, rfl, hbo, hx, hwx, k0, k1, k2, k3⟩ := SLQ.out.chgK hlt (fun _ _ => rfl)
          have HTK := Lib.hid (show ((cb ++ cc).take (q + 1)).map (·.key) = ((cb ++ cc).take q).map (·.key) ++ [ch.key] by rw [take_snoc hx, List.map_append]; rfl)
          have HWK := Lib.hid (show I64 ch.key from hwx.2.1)
          obtain ⟨ct, ck, cg, cv⟩ := ch
          dsimp only at k0 k1 k2 k3 HTK HWK
          have HKN := Lib.hid (show (((cb ++ cc).take q).map (·.key)).length ≤ 100000 by rw [List.length_map, List.length_take]; omega)
          have hkn := HKN.out
          have SQA := Lib.hid (SQQ.out.below ((Below.refl wq.heap.size wq).alloc (Nat.le_refl _) (.cells #[.int .i64 ct, .int .i64 ck, .bool cg, .string cv] 53)))
          have BQA := Lib.hid (BQ.out.alloc hbs (.cells #[.int .i64 ct, .int .i64 ck, .bool cg, .string cv] 53))
          have SLA := Lib.hid (show IsSl chgRep (wq.alloc (.cells #[.int .i64 ct, .int .i64 ck, .bool cg, .string cv] 53)) (fun k => V2.heap.size ≤ k ∧ k < w23.heap.size) (some ⟨bo, fo, none⟩) m23 (cb ++ cc) from SLQ.out.keep (fun p hp => ((Below.refl wq.heap.size wq).alloc (Nat.le_refl _) _).cell (Nat.lt_of_lt_of_le hp.2 hszq)))
          clear hx hwx
          go_wp2_with (first
            | (at_mapUpdate; refine wpList_mapUpdate_own _ rfl _ _ _ 47 rfl 2 4 keyed64 Try.underlying47 _ bq _ _ rfl SQA.out (by simp only [maxLen]; omega) _ _ _ rfl rfl (Go.Maps.keyOf_int_mk Try.underlying2 (wf_of_i64 HWK.out)) litT [] (plainElem_bool Try.underlying4 true) ?_; intro w24 own24 gr24; have SM24 := Lib.hid (SetM.put own24); have B24 := Lib.hid (BQA.out.grown gr24 BQA.out.size (fun k hk => by injection hk with hk; omega)); have SL24 := Lib.hid (show IsSl chgRep w24 (fun k => V2.heap.size ≤ k ∧ k < w23.heap.size) (some ⟨bo, fo, none⟩) m23 (cb ++ cc) from SLA.out.keep (fun p hp => World.cell?_of_block (gr24.block p.block (by simp; omega) (fun e => by injection e with e; omega)))); have hs24 : w23.heap.size ≤ w24.heap.size := Nat.le_trans (by simp; omega) gr24.size; clear own24 gr24)
            | fail)
          go_roundw
          case rel => exact ⟨q + 1, by go_num, by omega, by rw [HTK.out]; exact SM24.out, B24.out, SL24.out, hs24⟩
          case measure => simp [intOf]; omega
        · obtain rfl : m23 = q := by omega
          have hd : decide ((m23 : Int) < (m23 : Int)) = false := by simp
          have HTQ := Lib.hid (show (((cb ++ cc).take m23).map (·.key)) = (cb ++ cc).map (·.key) by rw [List.take_of_length_le (by rw [HM23.out]; exact Nat.le_refl _)])
          rw [HTQ.out] at SQQ
          have SMQ := Lib.hid (SM.out.below BQ.out)
          have BVQ := Lib.hid (show Below V.heap.size V wq from BE.out.trans (BQ.out.mono hsz))
          have STQ := Lib.hid (STV.out.below BVQ.out)
          have HL2s := Lib.hid (show ∀ l ∈ [L2], l.length ≤ 100000 by intro l hl; rw [List.mem_singleton.1 hl]; exact hl2m)
          clear hlt HTQ
          go_upto_region 35 with (first
            | (go_at_call 23; (with_reducible refine (refsetrows_any gs bt U [L2] 0 0 rfl _ STQ.out (by simp) (by simp) HL2s.out).mono ?_); rintro e w30 ⟨v30, rfl, own30, bel30⟩; rw [show (([L2] : List (List Row))[0]?).getD [] = L2 from rfl] at own30; obtain ⟨A30, c30, rfl, _, _, sl30⟩ := own30.isSlR; obtain ⟨n30, hn30⟩ : ∃ n30, n30 = L2.length := ⟨_, rfl⟩; rw [← hn30] at sl30 ⊢; have HN30 := Lib.hid hn30; have SL30 := Lib.hid sl30; have B30 := Lib.hid bel30; clear own30 bel30 sl30 hn30)
            | fail)
          have hn30 : n30 ≤ 100000 := by rw [HN30.out]; exact hl2m
          have SM30 := Lib.hid (SMQ.out.below B30.out)
          have SQ30 := Lib.hid (SQQ.out.below B30.out)
          have BV30 := Lib.hid (show Below V.heap.size V w30 from BVQ.out.trans (B30.out.mono BVQ.out.size))
          obtain ⟨dn, hdn⟩ : ∃ dn, dn = decide ((r.length : Int) < (k : Int)) := ⟨_, rfl⟩
          obtain ⟨lk, hlk⟩ : ∃ lk, lk = lastKey r fr := ⟨_, rfl⟩
          have HDN := Lib.hid hdn
          have HLK := Lib.hid hlk
          have HN5' := Lib.hid (show V.cell? ⟨bn, fn + 5, none⟩ = some (.int .i64 lk) by rw [hlk]; exact HN5.out)
          have HN6' := Lib.hid (show V.cell? ⟨bn, fn + 6, none⟩ = some (.bool dn) by rw [hdn]; exact HN6.out)
          clear hdn hlk
          go_wp2_with fail
          go_loopw [174] (fun i wr => ∃ q : Nat, i = .int .i64 q ∧ q ≤ n30 ∧ Below w30.heap.size w30 wr) (fun i _ => n30 - (intOf i).toNat)
          case atStart => exact ⟨0, rfl, Nat.zero_le _, Below.refl _ _⟩
          case round =>
            obtain ⟨wz, rfl⟩ : ∃ x : World, x = wr := ⟨_, rfl⟩
            obtain ⟨q, rfl, hq, hbz⟩ := hrel
            have BZ := Lib.hid hbz
            have hzs := hbz.size
            clear hbz
            have BVZ := Lib.hid (show Below V.heap.size V wz from BV30.out.trans (BZ.out.mono BV30.out.size))
            by_cases hlt : q < n30
            · have hd : decide ((q : Int) < (n30 : Int)) = true := decide_eq_true (by omega)
              have hqi : (q : Int) < (n30 : Int) := by omega
              have hq0 : (0 : Int) ≤ (q : Int) := by omega
              obtain ⟨bo, fo, y, rfl, hbo, hx, hwx, k0, k1⟩ := SL30.out.rowT (w' := wz) hlt (fun p hp => BZ.out.cell hp.2)
              have HYM := Lib.hid (show y ∈ L2 from List.mem_of_getElem? hx)
              have HWK := Lib.hid (show I64 y.key from hwx.1)
              obtain ⟨yk, yv⟩ := y
              dsimp only at k0 k1 HWK
              clear hx hwx
              obtain ⟨W4, hW4⟩ : ∃ W4, W4 = wz.alloc (.cells #[.int .i64 yk, .string yv] 55) := ⟨_, rfl⟩
              obtain ⟨yb, hyb⟩ : ∃ yb, yb = wz.heap.size := ⟨_, rfl⟩
              have BY := Lib.hid (show Blk W4 yb [.int .i64 yk, .string yv] by rw [hW4, hyb]; exact Blk.new rfl rfl)
              have B4 := Lib.hid (show Below wz.heap.size wz W4 by rw [hW4]; exact (Below.refl _ _).alloc (Nat.le_refl _) _)
              have BV4 := Lib.hid (show Below V.heap.size V W4 from BVZ.out.trans (B4.out.mono BVZ.out.size))
              have B34 := Lib.hid (show Below w30.heap.size w30 W4 from BZ.out.trans (B4.out.mono hzs))
              have HW4 := Lib.hid hW4
              have HYB := Lib.hid hyb
              clear hW4 hyb
              go_upto_region 37 with fail
              rw [← HW4.out, ← HYB.out]
              clear k0 k1
              obtain ⟨y0, y1, yz⟩ := BY.out.c2
              have x2 := (BV4.out.cell (p := ⟨bx, 2, none⟩) hbxV).trans (KV.out.1 2 _ rfl)
              have x5 := (BV4.out.cell (p := ⟨bn, fn + 5, none⟩) HBN.out).trans HN5'.out
              have x6 := (BV4.out.cell (p := ⟨bn, fn + 6, none⟩) HBN.out).trans HN6'.out
              obtain ⟨t, ht⟩ : ∃ t, t = (ops.map (·.key)).any (· == yk) := ⟨_, rfl⟩
              obtain ⟨u, hu⟩ : ∃ u, u = ((cb ++ cc).map (·.key)).any (· == yk) := ⟨_, rfl⟩
              have lt := fun n => ((SM30.out.below B34.out).below (below_drewN (Below.refl W4.heap.size W4) n)).look yk (wf_of_i64 HWK.out)
              have lu := fun n => ((SQ30.out.below B34.out).below (below_drewN (Below.refl W4.heap.size W4) n)).look yk (wf_of_i64 HWK.out)
              rw [← ht] at lt
              rw [← hu] at lu
              have HT := Lib.hid ht
              have HU := Lib.hid hu
              clear ht hu
              by_cases ha : fr < yk
              case pos =>
                have HA := Lib.hid ha
                have da : decide (fr < yk) = true := decide_eq_true ha
                clear ha
                by_cases hb : yk ≤ lk
                case pos =>
                  have HB := Lib.hid (show yk ≤ lastKey r fr ∨ (r.length : Int) < (k : Int) from .inl (by rw [← HLK.out]; exact hb))
                  have db : decide (yk ≤ lk) = true := decide_eq_true hb
                  clear hb
                  cases t with
                  | true =>
                    go_quiet (fail)
                    go_wp2
                    go_roundw
                    case rel => exact ⟨q + 1, by go_num, by omega, below_drewN B34.out _⟩
                    case measure => simp [intOf]; omega
                  | false =>
                    cases u with
                    | true =>
                      go_quiet (fail)
                      go_wp2
                      go_roundw
                      case rel => exact ⟨q + 1, by go_num, by omega, below_drewN B34.out _⟩
                      case measure => simp [intOf]; omega
                    | false =>
                      exact absurd (tw_last HR.out HL2.out HOPS.out FB.out.1 FC.out.1 (by omega) SR1.out HYM.out HA.out HB.out HT.out.symm HU.out.symm) id
                case neg =>
                  have db : decide (yk ≤ lk) = false := decide_eq_false hb
                  clear hb
                  cases dn with
                  | true =>
                    have HB := Lib.hid (show yk ≤ lastKey r fr ∨ (r.length : Int) < (k : Int) from .inr (of_decide_eq_true HDN.out.symm))
                    cases t with
                    | true =>
                      go_quiet (fail)
                      go_wp2
                      go_roundw
                      case rel => exact ⟨q + 1, by go_num, by omega, below_drewN B34.out _⟩
                      case measure => simp [intOf]; omega
                    | false =>
                      cases u with
                      | true =>
                        go_quiet (fail)
                        go_wp2
                        go_roundw
                        case rel => exact ⟨q + 1, by go_num, by omega, below_drewN B34.out _⟩
                        case measure => simp [intOf]; omega
                      | false =>
                        exact absurd (tw_last HR.out HL2.out HOPS.out FB.out.1 FC.out.1 (by omega) SR1.out HYM.out HA.out HB.out HT.out.symm HU.out.symm) id
                  | false =>
                    go_quiet (fail)
                    go_wp2
                    go_roundw
                    case rel => exact ⟨q + 1, by go_num, by omega, below_drewN B34.out _⟩
                    case measure => simp [intOf]; omega
              case neg =>
                have da : decide (fr < yk) = false := decide_eq_false ha
                clear ha
                go_quiet (fail)
                go_wp2
                go_roundw
                case rel => exact ⟨q + 1, by go_num, by omega, below_drewN B34.out _⟩
                case measure => simp [intOf]; omega
            · obtain rfl : n30 = q := by omega
              have hd : decide ((n30 : Int) < (n30 : Int)) = false := by simp
              have BWZ := Lib.hid (show Below w.heap.size w wz from BWV.out.trans (BVZ.out.mono BWV.out.size))
              clear hlt
              go_wp2_with (first
                | (go_at_call 30; (with_reducible refine (awake26_any _).mono ?_); rintro e w2 ⟨rfl, bel2⟩; have BEND := Lib.hid (BWZ.out.trans (bel2.mono BWZ.out.size)); clear bel2)
                | fail)
              go_ret
              exact ⟨rfl, BEND.out⟩
end Go.Proofs.Ytojjeogpggielaa
