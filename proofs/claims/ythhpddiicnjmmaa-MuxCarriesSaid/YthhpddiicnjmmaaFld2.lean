/- Contracts of field's reader: next, number, most, field. -/
import Derived.Test.YthhpddiicnjmmaaFld1
import Derived.Deep.QuietTactic
import Derived.BigQuiet
namespace Go.Proofs.Ythhpddiicnjmmaa
open Go.RowKit

/-- A reader at block g: the bytes that are left, and the first fault. -/
def RdrIs (w : World) (B g : Nat) (rest : List UInt8) (e : Int) : Prop :=
  ∃ A n c, w.cell? ⟨g, 0, none⟩ = some (.slice A n c) ∧ w.cell? ⟨g, 1, none⟩ = some (.int .i64 e) ∧ w.frozen? ⟨g, 0, none⟩ = false ∧ w.frozen? ⟨g, 1, none⟩ = false ∧ IsSl byteRep w (· < B) A n rest ∧ n ≤ c ∧ c ≤ maxLen

/-- What the next bytes are, what is left, and the fault. -/
def nextF (rest : List UInt8) (e : Int) (m : Nat) : List UInt8 × List UInt8 × Int :=
  if e = 0 then (if rest.length < m then ([], rest, 2) else (rest.take m, rest.drop m, 0)) else ([], rest, e)

theorem grownBy_set (w : World) (p : Addr) (u : Value) : w.grownBy (w.setCell p u) (some p.block) := by
  have h := (Below.refl 0 w).setCell (p := p) (Nat.zero_le _) u
  exact ⟨h.os, h.tape, h.output, h.size, fun k _ hne => Below.heap_setCell w p u k (fun e => hne (by rw [e]))⟩

theorem IsSl.grown {α : Type} {R : Rep α} {w w' : World} {A : Option Addr} {n B g : Nat} {l : List α} (h : IsSl R w (· < B) A n l) (hg : w.grownBy w' (some g)) (hB : B ≤ g) (hw : B ≤ w.heap.size) : IsSl R w' (· < B) A n l :=
  h.keep fun p hp => World.cell?_of_block (hg.block p.block (by omega) (by intro e; cases e; omega))

theorem set_size (w : World) (p : Addr) (u : Value) : (w.setCell p u).heap.size = w.heap.size := by simp

theorem RdrIs.fault {w : World} {B g : Nat} {rest : List UInt8} {e : Int} (h : RdrIs w B g rest e) (hg : B ≤ g) (e' : Int) : RdrIs (w.setCell ⟨g, 1, none⟩ (.int .i64 e')) B g rest e' := by
  obtain ⟨A, n, c, c0, c1, z0, z1, hsl, hnc, hcm⟩ := h
  refine ⟨A, n, c, ?_, World.cell?_setCell_same _ _ _ c1, by simpa using z0, by simpa using z1, hsl.keep fun p hp => World.cell?_setCell_other _ _ _ _ (by intro h; rw [← h] at hp; exact Nat.lt_irrefl _ (Nat.lt_of_lt_of_le hp hg)), hnc, hcm⟩
  rw [World.cell?_setCell_other _ _ _ _ (by intro h; injection h with _ h2; cases h2)]
  exact c0

theorem RdrIs.took {w : World} {B g : Nat} {rest rest' : List UInt8} {e : Int} {A : Option Addr} {n c : Nat} (h : RdrIs w B g rest e) (hg : B ≤ g) (hsl' : IsSl byteRep w (· < B) A n rest') (hnc' : n ≤ c) (hcm' : c ≤ maxLen) : RdrIs (w.setCell ⟨g, 0, none⟩ (.slice A n c)) B g rest' e := by
  obtain ⟨_, _, _, c0, c1, z0, z1, _, _, _⟩ := h
  refine ⟨A, n, c, World.cell?_setCell_same _ _ _ c0, ?_, by simpa using z0, by simpa using z1, hsl'.keep fun p hp => World.cell?_setCell_other _ _ _ _ (by intro h; rw [← h] at hp; exact Nat.lt_irrefl _ (Nat.lt_of_lt_of_le hp hg)), hnc', hcm'⟩
  rw [World.cell?_setCell_other _ _ _ _ (by intro h; injection h with _ h2; cases h2)]
  exact c1

theorem grownBy_refl (w : World) (r : Option Nat) : w.grownBy w r := World.grownBy.refl w r

theorem IsSl.behind {A A' : Option Addr} {w : World} {S : Nat → Prop} {n lo : Nat} {l : List UInt8} (h : IsSl byteRep w S A n l) (h1 : lo ≤ n) (hA : A' = A.map (·.add lo) ∨ n = lo) : IsSl byteRep w S A' (n - lo) (l.drop lo) := by
  refine h.from_ h1 fun hlt b off e => ?_
  rcases hA with rfl | h2
  · rw [e]; simp only [Option.map_some, add_none]; rw [show byteRep.size = 1 from rfl, Nat.mul_one]
  · omega

set_option maxRecDepth 100000 in
set_option maxHeartbeats 1000000 in
theorem next_any (B g : Nat) (rest : List UInt8) (e : Int) (m : Nat) (w : World) (h : RdrIs w B g rest e) (hg : B ≤ g) (hm : m ≤ 1000000) :
    Calls Try.prog 152 #[.pointer (some ⟨g, 0, none⟩), .int .i64 (m : Int)] w fun ev w' => ∃ A n c, ev = .returned (.slice A n c) ∧ IsSl byteRep w' (· < B) A n (nextF rest e m).1 ∧ n ≤ c ∧ c ≤ maxLen ∧ RdrIs w' B g (nextF rest e m).2.1 (nextF rest e m).2.2 ∧ w.grownBy w' (some g) := by
  have HR := Lib.hid h
  obtain ⟨A, n, c, c0, c1, z0, z1, hsl, hnc, hcm⟩ := h
  have HS := Lib.hid hsl
  have hlen := hsl.len
  have hcm' := hcm
  unfold maxLen at hcm'
  clear hsl
  by_cases he : e = 0
  · subst he
    by_cases hlt : n < m
    · have HF := Lib.hid (show nextF rest 0 m = ([], rest, 2) by unfold nextF; rw [if_pos rfl, if_pos (by omega)])
      have HL := Lib.hid hlen
      clear hlen
      go_enter Try.func152, Try.ntmps152
      go_wp2
      go_ret
      rw [HF.out]
      exact ⟨_, _, _, rfl, IsSl.nil, Nat.le_refl _, Nat.zero_le _, HR.out.fault hg 2, grownBy_set _ _ _⟩
    · have hge : m ≤ n := by omega
      have HF := Lib.hid (show nextF rest 0 m = (rest.take m, rest.drop m, 0) by unfold nextF; rw [if_pos rfl, if_neg (by omega)])
      have HL := Lib.hid hlen
      clear hlen
      go_enter Try.func152, Try.ntmps152
      go_wp2
      all_goals
        go_ret
        rw [HF.out]
        refine ⟨_, _, _, rfl, (HS.out.cutTo hge).keep fun p hp => World.cell?_setCell_other _ _ _ _ (by intro h; rw [← h] at hp; exact Nat.lt_irrefl _ (Nat.lt_of_lt_of_le hp hg)), by omega, by unfold maxLen; omega, HR.out.took hg (HS.out.behind hge ?_) (by omega) (by unfold maxLen; omega), grownBy_set _ _ _⟩
        first | exact .inl rfl | exact .inr (by omega)
  · have HF := Lib.hid (show nextF rest e m = ([], rest, e) by unfold nextF; rw [if_neg he])
    have hb : (e == 0) = false := by simpa using he
    have HL := Lib.hid hlen
    clear hlen he
    go_enter Try.func152, Try.ntmps152
    go_wp2
    go_ret
    rw [HF.out]
    exact ⟨_, _, _, rfl, IsSl.nil, Nat.le_refl _, Nat.zero_le _, HR.out, grownBy_refl _ _⟩

/-- A number of the next bytes. -/
def takeF (rest : List UInt8) (e : Int) (m : Nat) : Nat × List UInt8 × Int := (numB (nextF rest e m).1, (nextF rest e m).2)

theorem nextF_len (rest : List UInt8) (e : Int) (m : Nat) : (nextF rest e m).1.length ≤ m := by
  unfold nextF
  split
  · split
    · simp
    · simp; omega
  · simp

set_option maxRecDepth 100000 in
set_option maxHeartbeats 1000000 in
theorem rnumber_any (B g : Nat) (rest : List UInt8) (e : Int) (m : Nat) (mi : Int) (hmi : mi = (m : Int)) (w : World) (h : RdrIs w B g rest e) (hg : B ≤ g) (hm : m ≤ 8) :
    Calls Try.prog 151 #[.pointer (some ⟨g, 0, none⟩), .int .i64 mi] w fun ev w' => ev = .returned (.int .u64 ((takeF rest e m).1 : Int)) ∧ RdrIs w' B g (takeF rest e m).2.1 (takeF rest e m).2.2 ∧ w.grownBy w' (some g) := by
  have H := Lib.hid h
  have HLEN := Lib.hid (nextF_len rest e m)
  subst hmi
  clear h
  go_enter Try.func151, Try.ntmps151
  go_wp2_with (go_at_call 152; (with_reducible refine (next_any B g rest e m _ H.out hg (by omega)).mono ?_); rintro ev w2 ⟨A2, n2, c2, rfl, sl2, hnc2, hcm2, rd2, gr2⟩; have SL2 := Lib.hid sl2; have RD2 := Lib.hid rd2; have GR2 := Lib.hid gr2; have hn2 : n2 ≤ 8 := (by have := HLEN.out; rw [← sl2.len] at this; omega); clear sl2 rd2 gr2)
  obtain ⟨L, hL⟩ : ∃ L, L = (nextF rest e m).1 := ⟨_, rfl⟩
  have HTK := Lib.hid (show takeF rest e m = (numB L, (nextF rest e m).2) by rw [hL]; rfl)
  rw [← hL] at SL2
  clear hL
  have hsl := SL2.out
  go_loop [5, 12] (fun v i => ∃ k : Nat, k ≤ n2 ∧ i = .int .i64 k ∧ v = .int .u64 (numB (L.take k) : Int)) (fun _ i => n2 - (intOf i).toNat)
  case atStart => exact ⟨0, Nat.zero_le _, rfl, rfl⟩
  case round =>
    obtain ⟨k, hk, rfl, rfl⟩ := hrel
    by_cases hlt : k < n2
    · obtain ⟨b, off, x, cs, rfl, hbS, hx, ⟨rfl, _⟩, hc⟩ := hsl.at_ hlt
      have c0 : w2.cell? ⟨b, off + k, none⟩ = some (.int .u8 (x.toNat : Int)) := by have := hc 0 _ rfl; simpa [byteRep, Rep.flat] using this
      have hst := numB_step (by omega) hx
      have hor := or_byte (numB (L.take k)) x (by omega)
      have HT := Lib.hid hst.1
      have HO := Lib.hid hor
      clear hc hx hst hor hsl
      go_wp2
      go_round
      case rel => exact ⟨k + 1, by omega, by go_num, by rw [HO.out, HT.out]⟩
      case measure => simp [intOf]; omega
    · go_wp2
      go_ret
      rw [HTK.out]
      exact ⟨ret_int (by rw [List.take_of_length_le (by rw [← hsl.len]; omega)]), RD2.out, GR2.out⟩

/-- A number of two bytes that may not be above most. -/
def mostF (rest : List UInt8) (e : Int) (k : Nat) : Nat × List UInt8 × Int := if k < (takeF rest e 2).1 then (0, (takeF rest e 2).2.1, 3) else takeF rest e 2

theorem takeF_lt2 (rest : List UInt8) (e : Int) : (takeF rest e 2).1 < 65536 := by
  have h := numB_lt (nextF rest e 2).1
  exact Nat.lt_of_lt_of_le h (Nat.pow_le_pow_right (by omega) (nextF_len rest e 2))

theorem grownBy_trans {w w' w'' : World} {r : Option Nat} (h : w.grownBy w' r) (h' : w'.grownBy w'' r) : w.grownBy w'' r :=
  ⟨h'.os.trans h.os, h'.tape.trans h.tape, h'.output.trans h.output, Nat.le_trans h.size h'.size, fun k hk hr => (h'.block k (Nat.lt_of_lt_of_le hk h.size) hr).trans (h.block k hk hr)⟩

set_option maxRecDepth 100000 in
set_option maxHeartbeats 1000000 in
theorem most_any (B g : Nat) (rest : List UInt8) (e : Int) (k : Nat) (ki : Int) (hki : ki = (k : Int)) (w : World) (h : RdrIs w B g rest e) (hg : B ≤ g) :
    Calls Try.prog 124 #[.pointer (some ⟨g, 0, none⟩), .int .i64 ki] w fun ev w' => ev = .returned (.int .i64 ((mostF rest e k).1 : Int)) ∧ RdrIs w' B g (mostF rest e k).2.1 (mostF rest e k).2.2 ∧ w.grownBy w' (some g) := by
  have H := Lib.hid h
  have hlt2 := takeF_lt2 rest e
  subst hki
  obtain ⟨x, hx⟩ : ∃ x, x = (takeF rest e 2).1 := ⟨_, rfl⟩
  rw [← hx] at hlt2
  have HX := Lib.hid hx
  clear h hx
  by_cases hgt : k < x
  · have HF := Lib.hid (show mostF rest e k = (0, (takeF rest e 2).2.1, 3) by unfold mostF; rw [← HX.out, if_pos hgt])
    go_enter Try.func124, Try.ntmps124
    go_wp2_with (go_at_call 151; (with_reducible refine (rnumber_any B g rest e 2 2 rfl _ H.out hg (by omega)).mono ?_); rintro ev w2 ⟨rfl, rd2, gr2⟩; rw [← HX.out]; have RD2 := Lib.hid rd2; obtain ⟨_, _, _, c0, c1, z0, z1, _⟩ := rd2)
    go_ret
    rw [HF.out]
    exact ⟨rfl, RD2.out.fault hg 3, grownBy_trans gr2 (grownBy_set _ _ _)⟩
  · have HF := Lib.hid (show mostF rest e k = takeF rest e 2 by unfold mostF; rw [← HX.out, if_neg hgt])
    go_enter Try.func124, Try.ntmps124
    go_wp2_with (go_at_call 151; (with_reducible refine (rnumber_any B g rest e 2 2 rfl _ H.out hg (by omega)).mono ?_); rintro ev w2 ⟨rfl, rd2, gr2⟩; rw [← HX.out])
    go_ret
    rw [HF.out, ← HX.out]
    exact ⟨rfl, rd2, gr2⟩
end Go.Proofs.Ythhpddiicnjmmaa
