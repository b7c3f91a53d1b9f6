/- The statements' helper: small. -/
import Derived.Test.YtmnjjmgdeiejkaaHelpReq
import Derived.Test.YtmnjjmgdeiejkaaPlay
import Derived.Deep.DeepCutAuto
import Derived.BigRegion
namespace Go.Proofs.Ytmnjjmgdeiejkaa
open Go.RowKit

/-- The last At, or 1. -/
def lastAt (l : List Req) : Int := match l.getLast? with | some r => r.at_ | none => 1

/-- The op of numbers that may be. -/
def smallF (l : List Req) (o : Op14) : Op14 :=
  if modOf o.kind 11 = 10 then o else
  ⟨o.kind, modOf o.table 8, 1 + modOf o.weight 8, 1 + modOf o.id ((l.length : Int) + 1), wrap64 (lastAt l + modOf o.at_ 3), match l[(modOf o.id ((l.length : Int) + 1)).toNat]? with | some r => wrap64 (modOf o.cursor 9 + r.cursor) | none => modOf o.cursor 9, o.done⟩

theorem keepB2 {w : World} {O1 O2 : Obj} {j : Nat} {u : Value} (h : (w.alloc O1).cell? ⟨w.heap.size, j, none⟩ = some u) : ((w.alloc O1).alloc O2).drew.cell? ⟨w.heap.size, j, none⟩ = some u :=
  (((Below.refl (w.heap.size + 1) (w.alloc O1)).alloc (by simp) O2).cell (p := ⟨w.heap.size, j, none⟩) (by simp)).trans h

theorem keepB3 {w : World} {O1 O2 O3 : Obj} {j : Nat} {u : Value} (h : (w.alloc O1).cell? ⟨w.heap.size, j, none⟩ = some u) : (((w.alloc O1).alloc O2).alloc O3).drew.cell? ⟨w.heap.size, j, none⟩ = some u :=
  ((((Below.refl (w.heap.size + 1) (w.alloc O1)).alloc (by simp) O2).alloc (by simp) O3).cell (p := ⟨w.heap.size, j, none⟩) (by simp)).trans h

theorem three_blocks (w : World) (o z x : Array Value) (t : TypeId) :
    (∀ (j : Nat) (u : Value), o[j]? = some u → ((((w.alloc (.cells o t)).alloc (.cells z t)).alloc (.cells x t)).drew).cell? ⟨w.heap.size, j, none⟩ = some u) ∧
    (∀ (j : Nat) (u : Value), z[j]? = some u → ((((w.alloc (.cells o t)).alloc (.cells z t)).alloc (.cells x t)).drew).cell? ⟨w.heap.size + 1, j, none⟩ = some u ∧ ((((w.alloc (.cells o t)).alloc (.cells z t)).alloc (.cells x t)).drew).frozen? ⟨w.heap.size + 1, j, none⟩ = false) ∧
    (∀ (j : Nat) (u : Value), x[j]? = some u → ((((w.alloc (.cells o t)).alloc (.cells z t)).alloc (.cells x t)).drew).cell? ⟨w.heap.size + 2, j, none⟩ = some u ∧ ((((w.alloc (.cells o t)).alloc (.cells z t)).alloc (.cells x t)).drew).frozen? ⟨w.heap.size + 2, j, none⟩ = false) ∧
    Below w.heap.size w ((((w.alloc (.cells o t)).alloc (.cells z t)).alloc (.cells x t)).drew) := by
  have fr : ∀ (W : World) (c : Array Value) (j : Nat), (W.alloc (.cells c t)).frozen? ⟨W.heap.size, j, none⟩ = false := by
    intro W c j
    rw [frozen?_alloc_cells]
    simp [World.frozen?]
  have s1 : (w.alloc (.cells o t)).heap.size = w.heap.size + 1 := by simp
  have s2 : ((w.alloc (.cells o t)).alloc (.cells z t)).heap.size = w.heap.size + 2 := by simp
  refine ⟨fun j u h => ?_, fun j u h => ⟨?_, ?_⟩, fun j u h => ⟨?_, ?_⟩, (((((Below.refl _ _).alloc (Nat.le_refl _) _).alloc (by simp) _).alloc (by simp; omega) _)).drew⟩
  · exact keepB3 ((World.cell?_alloc_at _ _ _ _ rfl).trans h)
  · have hb := ((Below.refl (w.heap.size + 2) ((w.alloc (.cells o t)).alloc (.cells z t))).alloc (by simp) (.cells x t)).drew
    exact (hb.cell (p := ⟨w.heap.size + 1, j, none⟩) (by simp)).trans ((World.cell?_alloc_at _ _ _ _ s1.symm).trans h)
  · have hb := ((Below.refl (w.heap.size + 2) ((w.alloc (.cells o t)).alloc (.cells z t))).alloc (by simp) (.cells x t)).drew
    exact (hb.frozen (p := ⟨w.heap.size + 1, j, none⟩) (by simp)).trans (by rw [← s1]; exact fr _ _ _)
  · exact (World.cell?_alloc_at _ _ _ _ s2.symm).trans h
  · show (((w.alloc (.cells o t)).alloc (.cells z t)).alloc (.cells x t)).frozen? _ = false
    rw [← s2]
    exact fr _ _ _

theorem wrap64_i64 (n : Int) : I64 (wrap64 n) := by unfold I64 wrap64; omega

set_option maxRecDepth 100000 in
set_option maxHeartbeats 4000000 in
theorem small_any (A : Option Addr) (n c : Nat) (l : List Req) (o : Op14) (w : World) (h : IsSl reqRep w (· < w.heap.size) A n l) (hn : n ≤ 1000000) (ho : o.wf) :
    Calls Try.prog 28 #[.slice A n c, .agg #[.int .i64 o.kind, .int .i64 o.table, .int .i64 o.weight, .int .i64 o.id, .int .i64 o.at_, .int .i64 o.cursor, .bool o.done]] w fun e w' => e = .returned (.agg (smallF l o).cells.toArray) ∧ (smallF l o).wf ∧ Below w.heap.size w w' := by
  have HL := Lib.hid h.len
  have hk7 := modOf_range o.kind 11 (by omega)
  have h0 : (0 : Int) < 11 := by omega
  have h1 : (11 : Int) ≤ 9223372036854775807 := by omega
  by_cases hkk : modOf o.kind 11 = 10
  · have HO := Lib.hid (show smallF l o = o by unfold smallF; rw [if_pos hkk])
    have HK := Lib.hid hkk
    clear hkk h
    go_enter Try.func28, Try.ntmps28
    go_wp2_with (first | (go_at_call 19; (with_reducible refine (mod_any o.kind 11 _ h0 h1).mono ?_); rintro e w' ⟨rfl, rfl⟩; rw [HK.out]) | fail)
    go_returns
    rw [HO.out]
    exact ⟨rfl, ho, ((Below.refl _ _).alloc (Nat.le_refl _) _).alloc (by simp) _⟩
  · have hkb : (modOf o.kind 11 == 10) = false := by simpa using hkk
    have h8 : (0 : Int) < 8 := by omega
    have h8' : (8 : Int) ≤ 9223372036854775807 := by omega
    have h3 : (0 : Int) < 3 := by omega
    have h3' : (3 : Int) ≤ 9223372036854775807 := by omega
    have h9 : (0 : Int) < 9 := by omega
    have h9' : (9 : Int) ≤ 9223372036854775807 := by omega
    have hn1 : (0 : Int) < (n : Int) + 1 := by omega
    have hn1' : (n : Int) + 1 ≤ 9223372036854775807 := by omega
    have hm8 := modOf_range o.weight 8 (by omega)
    have hm9 := modOf_range o.cursor 9 (by omega)
    have hm8t := modOf_range o.table 8 (by omega)
    have hid := modOf_range o.id ((n : Int) + 1) (by omega)
    obtain ⟨q, hq⟩ := Int.eq_ofNat_of_zero_le hid.1
    rw [hq] at hid
    have hqn : q ≤ n := by omega
    obtain ⟨W8, hW8⟩ : ∃ x, x = modOf o.weight 8 := ⟨_, rfl⟩
    obtain ⟨T8, hT8⟩ : ∃ x, x = modOf o.table 8 := ⟨_, rfl⟩
    obtain ⟨C9, hC9⟩ : ∃ x, x = modOf o.cursor 9 := ⟨_, rfl⟩
    obtain ⟨A3, hA3⟩ : ∃ x, x = modOf o.at_ 3 := ⟨_, rfl⟩
    rw [← hW8] at hm8
    rw [← hT8] at hm8t
    rw [← hC9] at hm9
    obtain ⟨at1, hat1⟩ : ∃ x, x = wrap64 (lastAt l + A3) := ⟨_, rfl⟩
    obtain ⟨cu, hcu⟩ : ∃ x, x = match l[q]? with | some r => wrap64 (C9 + r.cursor) | none => C9 := ⟨_, rfl⟩
    have hcI : I64 cu := by rw [hcu]; split; exact wrap64_i64 _; unfold I64; omega
    have HO := Lib.hid (show smallF l o = ⟨o.kind, T8, 1 + W8, 1 + (q : Int), at1, cu, o.done⟩ by unfold smallF; rw [if_neg hkk, ← HL.out, hq, ← hW8, ← hT8, ← hC9, ← hA3, hat1, hcu]; rfl)
    have HWF := Lib.hid (show (⟨o.kind, T8, 1 + W8, 1 + (q : Int), at1, cu, o.done⟩ : Op14).wf from ⟨ho.1, by unfold I64; dsimp only; omega, by unfold I64; dsimp only; omega, by unfold I64; dsimp only; omega, by rw [hat1]; exact wrap64_i64 _, hcI⟩)
    have HW8 := Lib.hid hW8
    have HT8 := Lib.hid hT8
    have HC9 := Lib.hid hC9
    have HA3 := Lib.hid hA3
    have HAT := Lib.hid hat1
    have HCU := Lib.hid hcu
    have HQ := Lib.hid hq
    have hcase : (decide ((0 : Int) < (n : Int)) = false ∧ decide (0 < n) = false ∧ lastAt l = 1) ∨ (∃ b off : Nat, A = some ⟨b, off, none⟩ ∧ b < w.heap.size ∧ (0 : Int) < (n : Int) ∧ 0 < n ∧ (0 : Int) ≤ (n : Int) - 1 ∧ (n : Int) - 1 < (n : Int) ∧ w.cell? ⟨b, off + (n - 1) * 7 + 3, none⟩ = some (.int .i64 (lastAt l))) := by
      rcases Nat.eq_zero_or_pos n with hz | hz
      · left
        refine ⟨by simp; omega, by simp; omega, ?_⟩
        have : l = [] := List.eq_nil_of_length_eq_zero (by rw [← HL.out]; exact hz)
        rw [this]; rfl
      · right
        obtain ⟨b, off, x, cs, hA, hbS, hx, ⟨rfl, hwf⟩, hc⟩ := h.at_ (k := n - 1) (by omega)
        refine ⟨b, off, hA, hbS, by omega, hz, by omega, by omega, ?_⟩
        have hgl : l.getLast? = some x := by rw [List.getLast?_eq_getElem?, ← HL.out]; exact hx
        unfold lastAt
        rw [hgl]
        exact hc 3 _ rfl
    obtain ⟨la, hla⟩ : ∃ x, x = lastAt l := ⟨_, rfl⟩
    rw [← hla] at hcase HAT
    have H := Lib.hid h
    have HLA := Lib.hid hla
    clear h hkk hW8 hT8 hC9 hA3 hat1 hcu hq hla hcI ho
    have e0 : (w.alloc (.cells #[.int .i64 o.kind, .int .i64 o.table, .int .i64 o.weight, .int .i64 o.id, .int .i64 o.at_, .int .i64 o.cursor, .bool o.done] 50)).cell? ⟨w.heap.size, 0, none⟩ = some (.int .i64 o.kind) := World.cell?_alloc_at _ _ _ _ rfl
    have e1 : (w.alloc (.cells #[.int .i64 o.kind, .int .i64 o.table, .int .i64 o.weight, .int .i64 o.id, .int .i64 o.at_, .int .i64 o.cursor, .bool o.done] 50)).cell? ⟨w.heap.size, 1, none⟩ = some (.int .i64 o.table) := World.cell?_alloc_at _ _ _ _ rfl
    have e2 : (w.alloc (.cells #[.int .i64 o.kind, .int .i64 o.table, .int .i64 o.weight, .int .i64 o.id, .int .i64 o.at_, .int .i64 o.cursor, .bool o.done] 50)).cell? ⟨w.heap.size, 2, none⟩ = some (.int .i64 o.weight) := World.cell?_alloc_at _ _ _ _ rfl
    have e3 : (w.alloc (.cells #[.int .i64 o.kind, .int .i64 o.table, .int .i64 o.weight, .int .i64 o.id, .int .i64 o.at_, .int .i64 o.cursor, .bool o.done] 50)).cell? ⟨w.heap.size, 3, none⟩ = some (.int .i64 o.id) := World.cell?_alloc_at _ _ _ _ rfl
    have e4 : (w.alloc (.cells #[.int .i64 o.kind, .int .i64 o.table, .int .i64 o.weight, .int .i64 o.id, .int .i64 o.at_, .int .i64 o.cursor, .bool o.done] 50)).cell? ⟨w.heap.size, 4, none⟩ = some (.int .i64 o.at_) := World.cell?_alloc_at _ _ _ _ rfl
    have e6 : (w.alloc (.cells #[.int .i64 o.kind, .int .i64 o.table, .int .i64 o.weight, .int .i64 o.id, .int .i64 o.at_, .int .i64 o.cursor, .bool o.done] 50)).cell? ⟨w.heap.size, 6, none⟩ = some (.bool o.done) := World.cell?_alloc_at _ _ _ _ rfl
    have hw1 : IntKind.i64.wrap (1 + W8) = 1 + W8 := IntWalk.i64_in _ ⟨by omega, by omega⟩
    have hw2 : IntKind.i64.wrap ((n : Int) + 1) = (n : Int) + 1 := IntWalk.i64_in _ ⟨by omega, by omega⟩
    have hw3 : IntKind.i64.wrap (1 + (q : Int)) = 1 + (q : Int) := IntWalk.i64_in _ ⟨by omega, by omega⟩
    rcases hcase with ⟨hd1, hd2, rfl⟩ | ⟨b, off, rfl, hbS, hd1, hd2, hd4, hd5, dat⟩
    · have hw4 : IntKind.i64.wrap (1 + A3) = at1 := by rw [HAT.out, IntKind.wrap_i64, wrap64]
      go_enter Try.func28, Try.ntmps28
      go_upto_region 6 with (first | (go_at_call 19; (with_reducible refine (mod_any o.kind 11 _ h0 h1).mono ?_); rintro e w' ⟨rfl, rfl⟩) | fail)
      go_cut [6] (fun s6 wx => s6 = .pointer (some ⟨w.heap.size + 1 + 1, 0, none⟩) ∧ wx = (((w.alloc (.cells #[.int .i64 o.kind, .int .i64 o.table, .int .i64 o.weight, .int .i64 o.id, .int .i64 o.at_, .int .i64 o.cursor, .bool o.done] 50)).alloc (.cells #[.int .i64 0, .int .i64 0, .int .i64 0, .int .i64 0, .int .i64 0, .int .i64 0, .bool false] 50)).alloc (.cells #[.int .i64 o.kind, .int .i64 T8, .int .i64 (1 + W8), .int .i64 (1 + (q : Int)), .int .i64 at1, .int .i64 0, .bool o.done] 50)).drew)
      case first =>
        go_region_held3 (fun w' => w'.cell? ⟨w.heap.size, 0, none⟩ = some (.int .i64 o.kind) ∧ w'.cell? ⟨w.heap.size, 1, none⟩ = some (.int .i64 o.table) ∧ w'.cell? ⟨w.heap.size, 2, none⟩ = some (.int .i64 o.weight) ∧ w'.cell? ⟨w.heap.size, 3, none⟩ = some (.int .i64 o.id) ∧ w'.cell? ⟨w.heap.size, 4, none⟩ = some (.int .i64 o.at_) ∧ w'.cell? ⟨w.heap.size, 6, none⟩ = some (.bool o.done)) (first | (simp; done) | exact ⟨keepB2 e0, keepB2 e1, keepB2 e2, keepB2 e3, keepB2 e4, keepB2 e6⟩ | exact ⟨keepB3 e0, keepB3 e1, keepB3 e2, keepB3 e3, keepB3 e4, keepB3 e6⟩)
          (first
            | (go_at_call 19; (with_reducible refine (mod_any o.table 8 _ h8 h8').mono ?_); rintro e w' ⟨rfl, rfl⟩; rw [← HT8.out])
            | (go_at_call 19; (with_reducible refine (mod_any o.weight 8 _ h8 h8').mono ?_); rintro e w' ⟨rfl, rfl⟩; rw [← HW8.out])
            | (go_at_call 21; (with_reducible refine (big_any o.at_ 3 _ h3 h3').mono ?_); rintro e w' ⟨rfl, rfl⟩; rw [← HA3.out])
            | (go_at_call 19; (with_reducible refine (mod_any o.id _ _ hn1 hn1').mono ?_); rintro e w' ⟨rfl, rfl⟩; rw [HQ.out])
            | fail)

        all_goals (go_wp2_with fail; go_meet; exact ⟨rfl, rfl⟩)
      case rest =>
        obtain ⟨rfl, hwx⟩ := hcut
        obtain ⟨t1, t2, t3, tb⟩ := three_blocks w #[.int .i64 o.kind, .int .i64 o.table, .int .i64 o.weight, .int .i64 o.id, .int .i64 o.at_, .int .i64 o.cursor, .bool o.done] #[.int .i64 0, .int .i64 0, .int .i64 0, .int .i64 0, .int .i64 0, .int .i64 0, .bool false] #[.int .i64 o.kind, .int .i64 T8, .int .i64 (1 + W8), .int .i64 (1 + (q : Int)), .int .i64 at1, .int .i64 0, .bool o.done] 50
        obtain ⟨g1, hg1⟩ : ∃ g1, g1 = w.heap.size + 1 := ⟨_, rfl⟩
        obtain ⟨g2, hg2⟩ : ∃ g2, g2 = w.heap.size + 2 := ⟨_, rfl⟩
        have c5 : wc.cell? ⟨w.heap.size, 5, none⟩ = some (.int .i64 o.cursor) := (congrArg (fun W : World => W.cell? ⟨w.heap.size, 5, none⟩) hwx).trans (t1 5 _ rfl)
        have x0 : wc.cell? ⟨g2, 0, none⟩ = some (.int .i64 o.kind) := by rw [hwx, hg2]; exact (t3 0 _ rfl).1
        have y0 : wc.frozen? ⟨g2, 0, none⟩ = false := by rw [hwx, hg2]; exact (t3 0 _ rfl).2
        have z0 : wc.cell? ⟨g1, 0, none⟩ = some (.int .i64 0) := by rw [hwx, hg1]; exact (t2 0 _ rfl).1
        have v0 : wc.frozen? ⟨g1, 0, none⟩ = false := by rw [hwx, hg1]; exact (t2 0 _ rfl).2
        have x1 : wc.cell? ⟨g2, 1, none⟩ = some (.int .i64 T8) := by rw [hwx, hg2]; exact (t3 1 _ rfl).1
        have y1 : wc.frozen? ⟨g2, 1, none⟩ = false := by rw [hwx, hg2]; exact (t3 1 _ rfl).2
        have z1 : wc.cell? ⟨g1, 1, none⟩ = some (.int .i64 0) := by rw [hwx, hg1]; exact (t2 1 _ rfl).1
        have v1 : wc.frozen? ⟨g1, 1, none⟩ = false := by rw [hwx, hg1]; exact (t2 1 _ rfl).2
        have x2 : wc.cell? ⟨g2, 2, none⟩ = some (.int .i64 (1 + W8)) := by rw [hwx, hg2]; exact (t3 2 _ rfl).1
        have y2 : wc.frozen? ⟨g2, 2, none⟩ = false := by rw [hwx, hg2]; exact (t3 2 _ rfl).2
        have z2 : wc.cell? ⟨g1, 2, none⟩ = some (.int .i64 0) := by rw [hwx, hg1]; exact (t2 2 _ rfl).1
        have v2 : wc.frozen? ⟨g1, 2, none⟩ = false := by rw [hwx, hg1]; exact (t2 2 _ rfl).2
        have x3 : wc.cell? ⟨g2, 3, none⟩ = some (.int .i64 (1 + (q : Int))) := by rw [hwx, hg2]; exact (t3 3 _ rfl).1
        have y3 : wc.frozen? ⟨g2, 3, none⟩ = false := by rw [hwx, hg2]; exact (t3 3 _ rfl).2
        have z3 : wc.cell? ⟨g1, 3, none⟩ = some (.int .i64 0) := by rw [hwx, hg1]; exact (t2 3 _ rfl).1
        have v3 : wc.frozen? ⟨g1, 3, none⟩ = false := by rw [hwx, hg1]; exact (t2 3 _ rfl).2
        have x4 : wc.cell? ⟨g2, 4, none⟩ = some (.int .i64 at1) := by rw [hwx, hg2]; exact (t3 4 _ rfl).1
        have y4 : wc.frozen? ⟨g2, 4, none⟩ = false := by rw [hwx, hg2]; exact (t3 4 _ rfl).2
        have z4 : wc.cell? ⟨g1, 4, none⟩ = some (.int .i64 0) := by rw [hwx, hg1]; exact (t2 4 _ rfl).1
        have v4 : wc.frozen? ⟨g1, 4, none⟩ = false := by rw [hwx, hg1]; exact (t2 4 _ rfl).2
        have x5 : wc.cell? ⟨g2, 5, none⟩ = some (.int .i64 0) := by rw [hwx, hg2]; exact (t3 5 _ rfl).1
        have y5 : wc.frozen? ⟨g2, 5, none⟩ = false := by rw [hwx, hg2]; exact (t3 5 _ rfl).2
        have z5 : wc.cell? ⟨g1, 5, none⟩ = some (.int .i64 0) := by rw [hwx, hg1]; exact (t2 5 _ rfl).1
        have v5 : wc.frozen? ⟨g1, 5, none⟩ = false := by rw [hwx, hg1]; exact (t2 5 _ rfl).2
        have x6 : wc.cell? ⟨g2, 6, none⟩ = some (.bool o.done) := by rw [hwx, hg2]; exact (t3 6 _ rfl).1
        have y6 : wc.frozen? ⟨g2, 6, none⟩ = false := by rw [hwx, hg2]; exact (t3 6 _ rfl).2
        have z6 : wc.cell? ⟨g1, 6, none⟩ = some (.bool false) := by rw [hwx, hg1]; exact (t2 6 _ rfl).1
        have v6 : wc.frozen? ⟨g1, 6, none⟩ = false := by rw [hwx, hg1]; exact (t2 6 _ rfl).2
        have bwc : Below w.heap.size w wc := by rw [hwx]; exact tb
        have hl1 : w.heap.size < g1 := by omega
        have hl2 : g1 < g2 := by omega
        have ne1 : g1 ≠ g2 := by omega
        have ne2 : g2 ≠ g1 := by omega
        have ne3 : w.heap.size ≠ g1 := by omega
        have ne4 : w.heap.size ≠ g2 := by omega
        rw [show w.heap.size + 1 + 1 = g2 from hg2.symm, show w.heap.size + 1 = g1 from hg1.symm]
        have b9 : C9 ≤ 8 := by omega
        have hg1le : w.heap.size ≤ g1 := by omega
        have hg2le : w.heap.size ≤ g2 := by omega
        have b9' : 0 ≤ C9 := by omega
        clear hw1 hw2 hw3 hw4 e0 e1 e2 e3 e4 e6 t1 t2 t3 tb hwx hg1 hg2 hm9
        have hqlt : ¬ q < n := by simp at hd2; omega
        have hdq : decide ((1 : Int) + (q : Int) ≤ (n : Int)) = false := by simp; omega
        have hcu2 : C9 = cu := by rw [HCU.out, List.getElem?_eq_none (by rw [← HL.out]; omega)]
        have HCU2 := Lib.hid hcu2
        clear hid hqn hn1 hn1' hd1 hd2 hcu2
        go_wp2_with (first | (go_at_call 21; (with_reducible refine (big_any o.cursor 9 _ h9 h9').mono ?_); rintro e w' ⟨rfl, rfl⟩; rw [← HC9.out, HCU2.out]) | fail)
        refine bodyPost_ret (by simp [results, Try.results28, go_sem, z0, z1, z2, z3, z4, z5, z6]; try rfl) rfl ?_
        rw [HO.out]
        refine ⟨rfl, HWF.out, ?_⟩
        exact ((((((((bwc.setCell hg2le _).setCell hg1le _).setCell hg1le _).setCell hg1le _).setCell hg1le _).setCell hg1le _).setCell hg1le _).setCell hg1le _)
    · have hw4 : IntKind.i64.wrap (la + A3) = at1 := by rw [HAT.out, IntKind.wrap_i64, wrap64]
      go_enter Try.func28, Try.ntmps28
      go_upto_region 6 with (first | (go_at_call 19; (with_reducible refine (mod_any o.kind 11 _ h0 h1).mono ?_); rintro e w' ⟨rfl, rfl⟩) | fail)
      go_cut [6] (fun s6 wx => s6 = .pointer (some ⟨w.heap.size + 1 + 1, 0, none⟩) ∧ wx = (((w.alloc (.cells #[.int .i64 o.kind, .int .i64 o.table, .int .i64 o.weight, .int .i64 o.id, .int .i64 o.at_, .int .i64 o.cursor, .bool o.done] 50)).alloc (.cells #[.int .i64 0, .int .i64 0, .int .i64 0, .int .i64 0, .int .i64 0, .int .i64 0, .bool false] 50)).alloc (.cells #[.int .i64 o.kind, .int .i64 T8, .int .i64 (1 + W8), .int .i64 (1 + (q : Int)), .int .i64 at1, .int .i64 0, .bool o.done] 50)).drew)
      case first =>
        go_region_held3 (fun w' => w'.cell? ⟨w.heap.size, 0, none⟩ = some (.int .i64 o.kind) ∧ w'.cell? ⟨w.heap.size, 1, none⟩ = some (.int .i64 o.table) ∧ w'.cell? ⟨w.heap.size, 2, none⟩ = some (.int .i64 o.weight) ∧ w'.cell? ⟨w.heap.size, 3, none⟩ = some (.int .i64 o.id) ∧ w'.cell? ⟨w.heap.size, 4, none⟩ = some (.int .i64 o.at_) ∧ w'.cell? ⟨w.heap.size, 6, none⟩ = some (.bool o.done)) (first | (simp; done) | exact ⟨keepB2 e0, keepB2 e1, keepB2 e2, keepB2 e3, keepB2 e4, keepB2 e6⟩ | exact ⟨keepB3 e0, keepB3 e1, keepB3 e2, keepB3 e3, keepB3 e4, keepB3 e6⟩)
          (first
            | (go_at_call 19; (with_reducible refine (mod_any o.table 8 _ h8 h8').mono ?_); rintro e w' ⟨rfl, rfl⟩; rw [← HT8.out])
            | (go_at_call 19; (with_reducible refine (mod_any o.weight 8 _ h8 h8').mono ?_); rintro e w' ⟨rfl, rfl⟩; rw [← HW8.out])
            | (go_at_call 21; (with_reducible refine (big_any o.at_ 3 _ h3 h3').mono ?_); rintro e w' ⟨rfl, rfl⟩; rw [← HA3.out])
            | (go_at_call 19; (with_reducible refine (mod_any o.id _ _ hn1 hn1').mono ?_); rintro e w' ⟨rfl, rfl⟩; rw [HQ.out])
            | fail)

        all_goals (go_wp2_with fail; go_meet; exact ⟨rfl, rfl⟩)
      case rest =>
        obtain ⟨rfl, hwx⟩ := hcut
        obtain ⟨t1, t2, t3, tb⟩ := three_blocks w #[.int .i64 o.kind, .int .i64 o.table, .int .i64 o.weight, .int .i64 o.id, .int .i64 o.at_, .int .i64 o.cursor, .bool o.done] #[.int .i64 0, .int .i64 0, .int .i64 0, .int .i64 0, .int .i64 0, .int .i64 0, .bool false] #[.int .i64 o.kind, .int .i64 T8, .int .i64 (1 + W8), .int .i64 (1 + (q : Int)), .int .i64 at1, .int .i64 0, .bool o.done] 50
        obtain ⟨g1, hg1⟩ : ∃ g1, g1 = w.heap.size + 1 := ⟨_, rfl⟩
        obtain ⟨g2, hg2⟩ : ∃ g2, g2 = w.heap.size + 2 := ⟨_, rfl⟩
        have c5 : wc.cell? ⟨w.heap.size, 5, none⟩ = some (.int .i64 o.cursor) := (congrArg (fun W : World => W.cell? ⟨w.heap.size, 5, none⟩) hwx).trans (t1 5 _ rfl)
        have x0 : wc.cell? ⟨g2, 0, none⟩ = some (.int .i64 o.kind) := by rw [hwx, hg2]; exact (t3 0 _ rfl).1
        have y0 : wc.frozen? ⟨g2, 0, none⟩ = false := by rw [hwx, hg2]; exact (t3 0 _ rfl).2
        have z0 : wc.cell? ⟨g1, 0, none⟩ = some (.int .i64 0) := by rw [hwx, hg1]; exact (t2 0 _ rfl).1
        have v0 : wc.frozen? ⟨g1, 0, none⟩ = false := by rw [hwx, hg1]; exact (t2 0 _ rfl).2
        have x1 : wc.cell? ⟨g2, 1, none⟩ = some (.int .i64 T8) := by rw [hwx, hg2]; exact (t3 1 _ rfl).1
        have y1 : wc.frozen? ⟨g2, 1, none⟩ = false := by rw [hwx, hg2]; exact (t3 1 _ rfl).2
        have z1 : wc.cell? ⟨g1, 1, none⟩ = some (.int .i64 0) := by rw [hwx, hg1]; exact (t2 1 _ rfl).1
        have v1 : wc.frozen? ⟨g1, 1, none⟩ = false := by rw [hwx, hg1]; exact (t2 1 _ rfl).2
        have x2 : wc.cell? ⟨g2, 2, none⟩ = some (.int .i64 (1 + W8)) := by rw [hwx, hg2]; exact (t3 2 _ rfl).1
        have y2 : wc.frozen? ⟨g2, 2, none⟩ = false := by rw [hwx, hg2]; exact (t3 2 _ rfl).2
        have z2 : wc.cell? ⟨g1, 2, none⟩ = some (.int .i64 0) := by rw [hwx, hg1]; exact (t2 2 _ rfl).1
        have v2 : wc.frozen? ⟨g1, 2, none⟩ = false := by rw [hwx, hg1]; exact (t2 2 _ rfl).2
        have x3 : wc.cell? ⟨g2, 3, none⟩ = some (.int .i64 (1 + (q : Int))) := by rw [hwx, hg2]; exact (t3 3 _ rfl).1
        have y3 : wc.frozen? ⟨g2, 3, none⟩ = false := by rw [hwx, hg2]; exact (t3 3 _ rfl).2
        have z3 : wc.cell? ⟨g1, 3, none⟩ = some (.int .i64 0) := by rw [hwx, hg1]; exact (t2 3 _ rfl).1
        have v3 : wc.frozen? ⟨g1, 3, none⟩ = false := by rw [hwx, hg1]; exact (t2 3 _ rfl).2
        have x4 : wc.cell? ⟨g2, 4, none⟩ = some (.int .i64 at1) := by rw [hwx, hg2]; exact (t3 4 _ rfl).1
        have y4 : wc.frozen? ⟨g2, 4, none⟩ = false := by rw [hwx, hg2]; exact (t3 4 _ rfl).2
        have z4 : wc.cell? ⟨g1, 4, none⟩ = some (.int .i64 0) := by rw [hwx, hg1]; exact (t2 4 _ rfl).1
        have v4 : wc.frozen? ⟨g1, 4, none⟩ = false := by rw [hwx, hg1]; exact (t2 4 _ rfl).2
        have x5 : wc.cell? ⟨g2, 5, none⟩ = some (.int .i64 0) := by rw [hwx, hg2]; exact (t3 5 _ rfl).1
        have y5 : wc.frozen? ⟨g2, 5, none⟩ = false := by rw [hwx, hg2]; exact (t3 5 _ rfl).2
        have z5 : wc.cell? ⟨g1, 5, none⟩ = some (.int .i64 0) := by rw [hwx, hg1]; exact (t2 5 _ rfl).1
        have v5 : wc.frozen? ⟨g1, 5, none⟩ = false := by rw [hwx, hg1]; exact (t2 5 _ rfl).2
        have x6 : wc.cell? ⟨g2, 6, none⟩ = some (.bool o.done) := by rw [hwx, hg2]; exact (t3 6 _ rfl).1
        have y6 : wc.frozen? ⟨g2, 6, none⟩ = false := by rw [hwx, hg2]; exact (t3 6 _ rfl).2
        have z6 : wc.cell? ⟨g1, 6, none⟩ = some (.bool false) := by rw [hwx, hg1]; exact (t2 6 _ rfl).1
        have v6 : wc.frozen? ⟨g1, 6, none⟩ = false := by rw [hwx, hg1]; exact (t2 6 _ rfl).2
        have bwc : Below w.heap.size w wc := by rw [hwx]; exact tb
        have hl1 : w.heap.size < g1 := by omega
        have hl2 : g1 < g2 := by omega
        have ne1 : g1 ≠ g2 := by omega
        have ne2 : g2 ≠ g1 := by omega
        have ne3 : w.heap.size ≠ g1 := by omega
        have ne4 : w.heap.size ≠ g2 := by omega
        rw [show w.heap.size + 1 + 1 = g2 from hg2.symm, show w.heap.size + 1 = g1 from hg1.symm]
        have b9 : C9 ≤ 8 := by omega
        have hg1le : w.heap.size ≤ g1 := by omega
        have hg2le : w.heap.size ≤ g2 := by omega
        have b9' : 0 ≤ C9 := by omega
        clear hw1 hw2 hw3 hw4 e0 e1 e2 e3 e4 e6 t1 t2 t3 tb hwx hg1 hg2 hm9
        by_cases hqlt : q < n
        · have hdq : decide ((1 : Int) + (q : Int) ≤ (n : Int)) = true := by simp; omega
          obtain ⟨b', off', r, cs, hA, _, hr, ⟨rfl, hrw⟩, hrc⟩ := H.out.at_ hqlt
          injection hA with hA
          injection hA with q1 q2 _
          subst q1 q2
          have dcu : wc.cell? ⟨b, off + q * 7 + 4, none⟩ = some (.int .i64 r.cursor) := (bwc.cell (p := ⟨b, off + q * 7 + 4, none⟩) hbS).trans (hrc 4 _ rfl)
          have hcu2 : wrap64 (C9 + r.cursor) = cu := by rw [HCU.out, hr]
          have hq0 : (0 : Int) ≤ (q : Int) := by omega
          have hq1 : (q : Int) < (n : Int) := by omega
          have nb1 : b ≠ g2 := by omega
          have nb2 : b ≠ g1 := by omega
          have HCU2 := Lib.hid hcu2
          have hid1 : (1 : Int) + (q : Int) - 1 = (q : Int) := by omega
          have HID1 := Lib.hid hid1
          clear hid hqn hn1 hn1' hrc hr hrw hd1 hd2 hd4 hd5 hcu2 hqlt hid1
          go_wp2_with (first | (go_at_call 21; (with_reducible refine (big_any o.cursor 9 _ h9 h9').mono ?_); rintro e w' ⟨rfl, rfl⟩; rw [← HC9.out]) | fail)
          have hs1 : IntKind.i64.wrap (1 + (q : Int) - 1) = (q : Int) := by rw [HID1.out]; exact IntWalk.i64_in _ ⟨by omega, by omega⟩
          have hs2 : IntKind.i64.wrap (C9 + r.cursor) = cu := by rw [← HCU2.out, IntKind.wrap_i64, wrap64]
          go_region
          all_goals go_wp2
          refine bodyPost_ret (by simp [results, Try.results28, go_sem, z0, z1, z2, z3, z4, z5, z6]; try rfl) rfl ?_
          rw [HO.out]
          refine ⟨rfl, HWF.out, ?_⟩
          exact (((((((((bwc.setCell hg2le _).setCell hg2le _).setCell hg1le _).setCell hg1le _).setCell hg1le _).setCell hg1le _).setCell hg1le _).setCell hg1le _).setCell hg1le _).drew
        · have hdq : decide ((1 : Int) + (q : Int) ≤ (n : Int)) = false := by simp; omega
          have hcu2 : C9 = cu := by rw [HCU.out, List.getElem?_eq_none (by rw [← HL.out]; omega)]
          have HCU2 := Lib.hid hcu2
          clear hid hqn hn1 hn1' hd1 hd2 hd4 hd5 hcu2 hqlt
          go_wp2_with (first | (go_at_call 21; (with_reducible refine (big_any o.cursor 9 _ h9 h9').mono ?_); rintro e w' ⟨rfl, rfl⟩; rw [← HC9.out, HCU2.out]) | fail)
          refine bodyPost_ret (by simp [results, Try.results28, go_sem, z0, z1, z2, z3, z4, z5, z6]; try rfl) rfl ?_
          rw [HO.out]
          refine ⟨rfl, HWF.out, ?_⟩
          exact ((((((((bwc.setCell hg2le _).setCell hg1le _).setCell hg1le _).setCell hg1le _).setCell hg1le _).setCell hg1le _).setCell hg1le _).setCell hg1le _)
end Go.Proofs.Ytmnjjmgdeiejkaa
