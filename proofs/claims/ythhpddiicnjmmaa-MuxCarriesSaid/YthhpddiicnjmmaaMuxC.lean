/- Plain words for the mux (layer 27): what it holds, and what it makes of a transaction. Contracts of the mux: mayReqs, New. Contracts of the mux: which tables are carried over (Captured). Contracts of the mux: New. A mux in memory: what other blocks' changes leave of it; the contract of accept. Words for a mux's client: what holds between its steps. -/
import Derived.Test.YthhpddiicnjmmaaWinB
import Derived.Test.YthhpddiicnjmmaaOwnR
import Derived.Test.YthhpddiicnjmmaaReqC
import Derived.Test.YthhpddiicnjmmaaSigA
import Derived.Test.YthhpddiicnjmmaaTxnA
import Derived.Test.YthhpddiicnjmmaaRowK
set_option linter.unusedVariables false
set_option linter.unusedSimpArgs false
namespace Go.Proofs.Ythhpddiicnjmmaa
open Go.RowKit

/-- What a mux holds. -/
structure Mx where
  tables : Int
  late : Int
  at_ : Int
  reqs : List Req
  win : Win

/-- May requests be a mux's? -/
def mayMx (l : List Req) (tables lsn : Int) : Bool := l.all (fun r => decide (r.table < tables ∧ r.at_ ≤ lsn)) && mayB l
/-- May a mux be begun with these? -/
def newOk (tables late chunk lsn : Int) (l : List Req) : Bool := decide (1 ≤ tables ∧ tables ≤ 8 ∧ 0 ≤ late ∧ late < 2 ^ tables.toNat ∧ 0 ≤ lsn ∧ lsn ≤ 1099511627776 ∧ 1 ≤ chunk ∧ chunk ≤ 64) && mayMx l tables lsn
def mx0 (tables late chunk lsn : Int) (l : List Req) : Mx := ⟨tables, late, lsn, l, win0 chunk⟩

/-- Is that a late table? -/
def lateB (late t : Int) : Bool := !(late / 2 ^ t.toNat % 2 == 0)
def Mx.capt (x : Mx) (t : Int) : Bool := decide (0 ≤ t ∧ t < x.tables) && (!lateB x.late t || x.reqs.any (fun r => r.table == t))

/-- What a signal asks for: requests with one more. -/
def Mx.accO (x : Mx) (s : ByteArray) (lsn : Int) : Option (List Req) :=
  if (parseS s.data.toList).2.2 = true ∧ (parseS s.data.toList).1 < x.tables then acceptO x.reqs (parseS s.data.toList).1 (parseS s.data.toList).2.1 lsn else none
def Mx.acc (x : Mx) (s : ByteArray) (lsn : Int) : Mx := match x.accO s lsn with | some l => ⟨x.tables, x.late, x.at_, l, x.win⟩ | none => x
def Mx.accN (x : Mx) (s : ByteArray) (lsn : Int) : List Note := match x.accO s lsn with | some l => [⟨1, l.length, (parseS s.data.toList).1, (parseS s.data.toList).2.1, lsn, 0, false⟩] | none => []
/-- Signals, one behind the other. -/
def Mx.accs (x : Mx) (lsn : Int) (l : List ByteArray) : Mx × List Note := l.foldl (fun p s => (p.1.acc s lsn, p.2 ++ p.1.accN s lsn)) (x, [])
theorem Mx.accs_snoc (x : Mx) (lsn : Int) (l : List ByteArray) (s : ByteArray) : x.accs lsn (l ++ [s]) = ((x.accs lsn l).1.acc s lsn, (x.accs lsn l).2 ++ (x.accs lsn l).1.accN s lsn) := by
  unfold Mx.accs
  rw [List.foldl_append]
  rfl
def chgO (lsn : Int) (c : Chg) : Opr := ⟨lsn, c.table, c.key, c.gone, c.val⟩
def Mx.ops (x : Mx) (lsn : Int) (l : List Chg) : List Opr := (l.filter (fun c => x.capt c.table)).map (chgO lsn)
theorem Mx.ops_snoc (x : Mx) (lsn : Int) (l : List Chg) (c : Chg) : x.ops lsn (l ++ [c]) = x.ops lsn l ++ (if x.capt c.table = true then [chgO lsn c] else []) := by
  unfold Mx.ops
  rw [List.filter_append, List.map_append]
  by_cases h : x.capt c.table = true
  · rw [if_pos h]; simp [h]
  · rw [if_neg h]; simp [h]
def Mx.setWin (x : Mx) (y : Win) : Mx := ⟨x.tables, x.late, x.at_, x.reqs, y⟩
def Mx.setAt (x : Mx) (n : Int) : Mx := ⟨x.tables, x.late, n, x.reqs, x.win⟩
def Mx.setReqs (x : Mx) (l : List Req) : Mx := ⟨x.tables, x.late, x.at_, l, x.win⟩
/-- A client's transaction. -/
def Mx.cliI (x : Mx) (t : Txn) : Itm := ⟨t.lsn, (x.accs t.lsn t.signals).1.ops t.lsn t.changes, (x.accs t.lsn t.signals).2⟩
def Mx.cliM (x : Mx) (t : Txn) : Mx := (x.accs t.lsn t.signals).1.setWin ((x.accs t.lsn t.signals).1.win.see t.changes)
/-- A high mark. -/
def Mx.highO (x : Mx) (t : Txn) : Option (List Req) := if x.win.highOk t.mark t.lsn = true then chunkO x.reqs x.win.id x.win.cursor x.win.last else none
def Mx.highI (x : Mx) (t : Txn) : Itm := if x.win.highOk t.mark t.lsn = true then (match x.highO t with | some _ => x.win.tell t.mark t.lsn | none => ⟨t.lsn, (x.win.tell t.mark t.lsn).ops, []⟩) else ⟨t.lsn, [], []⟩
def Mx.highM (x : Mx) (t : Txn) : Mx := (match x.highO t with | some l => x.setReqs l | none => x).setWin (x.win.told t.mark t.lsn)
/-- The next transaction: an error, an item, and how the mux stands behind it. -/
def Mx.bad (x : Mx) (t : Txn) : Bool := !(decide (t.lsn = x.at_ + 1)) || x.win.waits t.kind t.mark
def Mx.takeE (x : Mx) (t : Txn) : Int := if mayTxn t = true then (if x.bad t = true then 10 else 0) else 1
def Mx.takeI (x : Mx) (t : Txn) : Itm :=
  if x.takeE t = 0 then (if t.kind = 1 then (x.setAt t.lsn).cliI t else if t.kind = 3 then (x.setAt t.lsn).highI t else ⟨t.lsn, [], []⟩) else ⟨0, [], []⟩
def Mx.takeM (x : Mx) (t : Txn) : Mx :=
  if x.takeE t = 0 then (if t.kind = 1 then (x.setAt t.lsn).cliM t else if t.kind = 3 then (x.setAt t.lsn).highM t else (x.setAt t.lsn).setWin (x.win.low t.mark)) else x

/-- What holds of a window in a mux. -/
structure Win.Fine (x : Win) : Prop where
  n1 : 1 ≤ x.n
  n2 : x.n ≤ 64
  rows : (x.rows.length : Int) ≤ x.n
  id : I64 x.id
  table : I64 x.table
  cursor : I64 x.cursor
structure Mx.Fine (x : Mx) : Prop where
  t1 : 1 ≤ x.tables
  t2 : x.tables ≤ 8
  l1 : 0 ≤ x.late
  l2 : x.late < 2 ^ x.tables.toNat
  a1 : 0 ≤ x.at_
  a2 : x.at_ ≤ 1099511627776
  may : mayB x.reqs = true
  tabs : ∀ r ∈ x.reqs, r.table < x.tables
  win : x.win.Fine
end Go.Proofs.Ythhpddiicnjmmaa

set_option linter.unusedVariables false
set_option linter.unusedSimpArgs false
set_option maxRecDepth 100000
namespace Go.Proofs.Ythhpddiicnjmmaa
open Go.RowKit

theorem IsSl.req {w w' : World} {T : Nat → Prop} {n k : Nat} {A : Option Addr} {l : List Req} (h : IsSl reqRep w T A n l) (hk : k < n) (hw : ∀ p : Addr, T p.block → w'.cell? p = w.cell? p) :
    ∃ b off x, A = some ⟨b, off, none⟩ ∧ T b ∧ l[k]? = some x ∧ x.wf ∧ w'.cell? ⟨b, off + k * 7, none⟩ = some (.int .i64 x.id) ∧ w'.cell? ⟨b, off + k * 7 + 1, none⟩ = some (.int .i64 x.table) ∧ w'.cell? ⟨b, off + k * 7 + 2, none⟩ = some (.int .i64 x.weight) ∧ w'.cell? ⟨b, off + k * 7 + 3, none⟩ = some (.int .i64 x.at_) ∧ w'.cell? ⟨b, off + k * 7 + 4, none⟩ = some (.int .i64 x.cursor) ∧ w'.cell? ⟨b, off + k * 7 + 5, none⟩ = some (.int .i64 x.chunks) ∧ w'.cell? ⟨b, off + k * 7 + 6, none⟩ = some (.bool x.done) := by
  obtain ⟨b, off, x, cs, rfl, hb, hx, ⟨rfl, hw2⟩, hc⟩ := h.at_ hk
  exact ⟨b, off, x, rfl, hb, hx, hw2, (hw _ hb).trans (hc 0 _ rfl), (hw _ hb).trans (hc 1 _ rfl), (hw _ hb).trans (hc 2 _ rfl), (hw _ hb).trans (hc 3 _ rfl), (hw _ hb).trans (hc 4 _ rfl), (hw _ hb).trans (hc 5 _ rfl), (hw _ hb).trans (hc 6 _ rfl)⟩

/-- A mux at block gm, its window at block g, its requests in T; S: blocks that are not its own. -/
structure MuxAt (w : World) (S T : Nat → Prop) (gm g : Nat) (x : Mx) (A : Option Addr) (c : Nat) : Prop where
  blk : Blk w gm [.pointer (some ⟨g, 0, none⟩), .int .i64 x.tables, .int .i64 x.late, .int .i64 x.at_, .slice A x.reqs.length c]
  reqs : IsSl reqRep w T A x.reqs.length x.reqs
  c1 : x.reqs.length ≤ c
  c2 : c ≤ maxLen
  win : WinOwn w (fun k => S k ∨ T k ∨ k = gm) g x.win
  hT : ∀ k, T k → k < w.heap.size
  nT : ¬ T gm
  nS : ¬ S gm
  dT : ∀ k, T k → ¬ S k
def MuxOwn (w : World) (S : Nat → Prop) (gm g : Nat) (x : Mx) : Prop := ∃ T A c, MuxAt w S T gm g x A c

set_option maxHeartbeats 4000000 in
theorem muxMayReqs_any (A : Option Addr) (n c : Nat) (l : List Req) (tables lsn : Int) (w : World) (h : IsSl reqRep w (· < w.heap.size) A n l) (hn : n ≤ 1000000) :
    Calls Try.prog 73 #[.slice A n c, .int .i64 tables, .int .i64 lsn] w fun e w' => e = .returned (.bool (mayMx l tables lsn)) ∧ Below w.heap.size w w' := by
  have H := Lib.hid h
  have HL := Lib.hid h.len
  clear h
  go_enter Try.func73, Try.ntmps73
  go_wp2
  go_loopw [8, 11] (fun _ i wr => ∃ k : Nat, i = .int .i64 k ∧ k ≤ n ∧ (l.take k).all (fun r => decide (r.table < tables ∧ r.at_ ≤ lsn)) = true ∧ Below w.heap.size w wr) (fun _ i _ => n - (intOf i).toNat)
  case atStart => exact ⟨0, rfl, Nat.zero_le _, rfl, Below.refl _ _⟩
  case round =>
    obtain ⟨k, rfl, hk, hall, hbel⟩ := hrel
    have HALL := Lib.hid hall
    have hsz := hbel.size
    clear hall
    by_cases hlt : k < n
    · obtain ⟨b, off, x, rfl, hb, hx, hwf, c0, c1, c2, c3, c4, c5, c6⟩ := H.out.req hlt (fun p hp => hbel.cell hp)
      have HX := Lib.hid hx
      have HB := Lib.hid (hbel.alloc hsz (.cells #[.int .i64 x.id, .int .i64 x.table, .int .i64 x.weight, .int .i64 x.at_, .int .i64 x.cursor, .int .i64 x.chunks, .bool x.done] 94))
      clear hx hwf
      by_cases h1 : x.table < tables
      · have d1 : decide (tables ≤ x.table) = false := decide_eq_false (by omega)
        by_cases h2 : x.at_ ≤ lsn
        · have d2 : decide (lsn < x.at_) = false := decide_eq_false (by omega)
          have HS := Lib.hid (show (l.take (k + 1)).all (fun r => decide (r.table < tables ∧ r.at_ ≤ lsn)) = true from all_step HX.out (decide_eq_true ⟨h1, h2⟩) HALL.out)
          go_wp2
          go_roundw
          case rel => exact ⟨k + 1, by go_num, by omega, HS.out, HB.out⟩
          case measure => simp [intOf]; omega
        · have d2 : decide (lsn < x.at_) = true := decide_eq_true (by omega)
          have HF := Lib.hid (show mayMx l tables lsn = false by unfold mayMx; rw [all_stop HX.out (decide_eq_false (fun h => h2 h.2))]; rfl)
          go_wp2
          go_ret
          rw [HF.out]
          exact ⟨rfl, HB.out⟩
      · have d1 : decide (tables ≤ x.table) = true := decide_eq_true (by omega)
        have HF := Lib.hid (show mayMx l tables lsn = false by unfold mayMx; rw [all_stop HX.out (decide_eq_false (fun h => h1 h.1))]; rfl)
        go_wp2
        go_ret
        rw [HF.out]
        exact ⟨rfl, HB.out⟩
    · obtain rfl : k = n := by omega
      have HS := Lib.hid (show mayMx l tables lsn = mayB l by unfold mayMx; rw [all_done (k := k) (by rw [← HL.out]; exact Nat.le_refl _) HALL.out]; rfl)
      have HH := Lib.hid ((H.out.below hbel).more hsz)
      go_wp2_with (first
        | (go_at_call 130; (with_reducible refine (May_any A k c l wr HH.out hn).mono ?_); rintro e w1 ⟨rfl, bel1⟩)
        | fail)
      go_ret
      rw [HS.out]
      exact ⟨rfl, hbel.trans (bel1.mono hsz)⟩
end Go.Proofs.Ythhpddiicnjmmaa

set_option linter.unusedVariables false
set_option linter.unusedSimpArgs false
set_option maxRecDepth 100000
namespace Go.Proofs.Ythhpddiicnjmmaa
open Go.RowKit

theorem capt1_any (r : Req) (cb : Nat) (ct : Int) (w : World) (h : w.cell? ⟨cb, 0, none⟩ = some (.int .i64 ct)) :
    Calls Try.prog 82 #[.agg #[.int .i64 r.id, .int .i64 r.table, .int .i64 r.weight, .int .i64 r.at_, .int .i64 r.cursor, .int .i64 r.chunks, .bool r.done], .pointer (some ⟨cb, 0, none⟩)] w fun e w' => e = .returned (.bool (r.table == ct)) ∧ Below w.heap.size w w' := by
  have hl : cb < w.heap.size := World.block_lt_of_cell? w _ h
  have h1 := (((Below.refl w.heap.size w).alloc (Nat.le_refl _) (.cells #[.int .i64 r.id, .int .i64 r.table, .int .i64 r.weight, .int .i64 r.at_, .int .i64 r.cursor, .int .i64 r.chunks, .bool r.done] 94)).cell (p := ⟨cb, 0, none⟩) hl).trans h
  go_enter Try.func82, Try.ntmps82
  go_wp2
  go_ret
  exact ⟨rfl, (Below.refl _ _).alloc (Nat.le_refl _) _⟩

def IdxReq (l : List Req) (ct : Int) (r : Int) : Prop := (r = -1 ∧ l.any (fun r => r.table == ct) = false) ∨ (0 ≤ r ∧ l.any (fun r => r.table == ct) = true)

set_option maxHeartbeats 4000000 in
theorem idxReq_any (A : Option Addr) (n c : Nat) (l : List Req) (cb : Nat) (ct : Int) (w : World) (h : IsSl reqRep w (· < w.heap.size) A n l) (hm : n ≤ 1000000) (hc : w.cell? ⟨cb, 0, none⟩ = some (.int .i64 ct)) :
    Calls Try.prog 137 #[.slice A n c, .func (.func 82) #[] #[.pointer (some ⟨cb, 0, none⟩)]] w fun e w' => ∃ r, e = .returned (.int .i64 r) ∧ IdxReq l ct r ∧ Below w.heap.size w w' := by
  have hcl : cb < w.heap.size := World.block_lt_of_cell? w _ hc
  have H := Lib.hid h
  have HL := Lib.hid h.len
  clear h
  go_enter Try.func137, Try.ntmps137
  go_wp2_with fail
  go_loopw [8] (fun i wr => ∃ p : Nat, i = .int .i64 p ∧ p ≤ n ∧ (l.take p).any (fun r => r.table == ct) = false ∧ Below w.heap.size w wr) (fun i _ => n - (intOf i).toNat)
  case atStart => exact ⟨0, rfl, Nat.zero_le _, by simp, Below.refl _ _⟩
  case round =>
    obtain ⟨p, rfl, hp, hall, hbel⟩ := hrel
    have HA := Lib.hid hall
    have hsz := hbel.size
    clear hall
    by_cases hlt : p < n
    · have hd : decide ((p : Int) < (n : Int)) = true := decide_eq_true (by omega)
      have hpi : (p : Int) < (n : Int) := by omega
      obtain ⟨b0, off, x, rfl, hbT, hx, hwf, k0, k1, k2, k3, k4, k5, k6⟩ := H.out.req hlt (fun q hq => hbel.cell hq)
      have hcr := (hbel.cell (p := ⟨cb, 0, none⟩) hcl).trans hc
      have HTK := Lib.hid (show (l.take (p + 1)).any (fun r => r.table == ct) = (x.table == ct) by rw [take_snoc hx, List.any_append, HA.out]; simp)
      have HX := Lib.hid hx
      clear hx
      by_cases g1 : x.table = ct
      · have e1 : (x.table == ct) = true := by simpa using g1
        have HG := Lib.hid (show l.any (fun r => r.table == ct) = true from List.any_eq_true.2 ⟨x, List.mem_of_getElem? HX.out, e1⟩)
        clear g1
        go_wp2_with (first
          | (go_at_call 82; (with_reducible refine (capt1_any x cb ct wr hcr).mono ?_); rintro e w2 ⟨rfl, bel2⟩; rw [e1]; have B2 := Lib.hid (hbel.trans (bel2.mono hsz)); clear bel2)
          | fail)
        go_ret
        exact ⟨_, rfl, .inr ⟨by omega, HG.out⟩, B2.out⟩
      · have e1 : (x.table == ct) = false := by simpa using g1
        rw [e1] at HTK
        clear g1
        go_wp2_with (first
          | (go_at_call 82; (with_reducible refine (capt1_any x cb ct wr hcr).mono ?_); rintro e w2 ⟨rfl, bel2⟩; rw [e1]; have B2 := Lib.hid (hbel.trans (bel2.mono hsz)); clear bel2)
          | fail)
        go_roundw
        case rel => exact ⟨p + 1, by go_num, by omega, HTK.out, B2.out⟩
        case measure => simp [intOf]; omega
    · obtain rfl : p = n := by omega
      have hd : decide ((p : Int) < (p : Int)) = false := by simp
      have HF := Lib.hid (show l.any (fun r => r.table == ct) = false by have := HA.out; rw [List.take_of_length_le (by rw [← HL.out]; exact Nat.le_refl _)] at this; exact this)
      go_wp2
      go_ret
      exact ⟨_, rfl, .inl ⟨rfl, HF.out⟩, hbel⟩

theorem hasReq_any (A : Option Addr) (n c : Nat) (l : List Req) (cb : Nat) (ct : Int) (w : World) (h : IsSl reqRep w (· < w.heap.size) A n l) (hm : n ≤ 1000000) (hc : w.cell? ⟨cb, 0, none⟩ = some (.int .i64 ct)) :
    Calls Try.prog 81 #[.slice A n c, .func (.func 82) #[] #[.pointer (some ⟨cb, 0, none⟩)]] w fun e w' => e = .returned (.bool (l.any (fun r => r.table == ct))) ∧ Below w.heap.size w w' := by
  have H := Lib.hid h
  clear h
  go_enter Try.func81, Try.ntmps81
  go_wp2_with (first
    | (go_at_call 137; (with_reducible refine (idxReq_any A n c l cb ct w H.out hm hc).mono ?_); rintro e w2 ⟨r, rfl, hr, bel2⟩; have HR := Lib.hid hr; have B2 := Lib.hid bel2; clear bel2 hr)
    | fail)
  go_ret
  rcases HR.out with ⟨h1, h2⟩ | ⟨h1, h2⟩
  · rw [h2]; subst h1; exact ⟨rfl, B2.out⟩
  · rw [h2]; exact ⟨ret_boolR (decide_eq_true h1), B2.out⟩

theorem shr_bit64 (b k : Nat) (hb : b < 256) : bits .and .i64 ((b : Int) / 2 ^ k) 1 = ((b / 2 ^ k % 2 : Nat) : Int) := by
  have h1 : ((b : Int) / 2 ^ k) = ((b / 2 ^ k : Nat) : Int) := by simp
  rw [h1]
  have h2 : b / 2 ^ k < 256 := Nat.lt_of_le_of_lt (Nat.div_le_self _ _) hb
  generalize b / 2 ^ k = m at h2
  have : ∀ m : Fin 256, bits .and .i64 ((m.val : Nat) : Int) 1 = ((m.val % 2 : Nat) : Int) := by decide
  exact this ⟨m, h2⟩

theorem late_small {x : Mx} (hf : x.Fine) : x.late < 256 := by
  have h1 := hf.t1
  have h2 := hf.t2
  have h3 := hf.l2
  have : x.tables.toNat ≤ 8 := by omega
  have h4 : (2 : Int) ^ x.tables.toNat ≤ 2 ^ 8 := by
    have := Nat.pow_le_pow_right (n := 2) (by omega) this
    have e : ((2 ^ x.tables.toNat : Nat) : Int) = (2 : Int) ^ x.tables.toNat := by simp
    rw [← e]
    exact_mod_cast this
  omega

set_option maxHeartbeats 8000000 in
theorem muxCapt_any (S : Nat → Prop) (gm g : Nat) (x : Mx) (w : World) (h : MuxOwn w S gm g x) (hf : x.Fine) (t : Int) (ht : I64 t) :
    Calls Try.prog 30 #[.pointer (some ⟨gm, 0, none⟩), .int .i64 t] w fun e w' => e = .returned (.bool (x.capt t)) ∧ Below w.heap.size w w' := by
  obtain ⟨T, A, c, h⟩ := h
  have hgl := h.blk.lt
  have hls := late_small hf
  obtain ⟨lt, hlt⟩ := Int.eq_ofNat_of_zero_le hf.l1
  obtain ⟨W, hW⟩ : ∃ W, W = w.alloc (.cells #[.int .i64 t] 3) := ⟨_, rfl⟩
  have hb : Below w.heap.size w W := by rw [hW]; exact (Below.refl _ _).alloc (Nat.le_refl _) _
  have q0 : W.cell? ⟨w.heap.size, 0, none⟩ = some (.int .i64 t) := by rw [hW]; exact World.cell?_alloc_at _ _ _ _ rfl
  obtain ⟨c0, c1, c2, c3, c4, cz⟩ := (h.blk.after hb).c5
  have HSL := Lib.hid (show IsSl reqRep W (· < W.heap.size) A x.reqs.length x.reqs from (h.reqs.keep (fun p hp => hb.cell (h.hT _ hp))).weak (fun k hk => Nat.lt_of_lt_of_le (h.hT _ hk) hb.size))
  have hm : x.reqs.length ≤ 64 := by
    have := hf.may
    unfold mayB at this
    rw [Bool.and_eq_true] at this
    exact of_decide_eq_true this.2
  have HW := Lib.hid hW
  have B1 := Lib.hid hb
  have h1 := hf.t1
  have h2 := hf.t2
  have HX : Hid (∀ b, b = (decide (0 ≤ t ∧ t < x.tables) && (!lateB x.late t || x.reqs.any (fun r => r.table == t))) → b = x.capt t) := Lib.hid (fun b hb => hb)
  obtain ⟨any, hany⟩ : ∃ any, any = x.reqs.any (fun r => r.table == t) := ⟨_, rfl⟩
  have HANY := Lib.hid hany
  rw [← hany] at HX
  obtain ⟨xt, xl, xa, xr, xw⟩ := x
  dsimp only at c1 c2 c3 c4 HSL hm h1 h2 hlt hls HANY HX
  subst hlt
  obtain ⟨nr, hnr⟩ : ∃ nr, nr = xr.length := ⟨_, rfl⟩
  rw [← hnr] at c4 HSL hm
  clear h hf hW hb hany hnr
  by_cases h3 : t < 0
  · have d1 : decide (t < 0) = true := decide_eq_true h3
    have HR := Lib.hid (HX.out false (by rw [decide_eq_false (by omega)]; rfl))
    go_enter Try.func30, Try.ntmps30
    go_wp2_with fail
    rw [← HW.out]
    go_quiet (fail)
    go_wp2
    go_ret
    rw [← HR.out]
    exact ⟨rfl, below_drewN B1.out _⟩
  · obtain ⟨lk, rfl⟩ := Int.eq_ofNat_of_zero_le (show 0 ≤ t by omega)
    have d1 : decide ((lk : Int) < 0) = false := decide_eq_false h3
    by_cases h4 : xt ≤ (lk : Int)
    · have d2 : decide (xt ≤ (lk : Int)) = true := decide_eq_true h4
      have HR := Lib.hid (HX.out false (by rw [decide_eq_false (by omega)]; rfl))
      go_enter Try.func30, Try.ntmps30
      go_wp2_with fail
      rw [← HW.out]
      go_quiet (fail)
      go_wp2
      go_ret
      rw [← HR.out]
      exact ⟨rfl, below_drewN B1.out _⟩
    · have d2 : decide (xt ≤ (lk : Int)) = false := decide_eq_false h4
      have hbit := shr_bit64 lt lk (by omega)
      have HLB := Lib.hid (show lateB (lt : Int) (lk : Int) = !(((lt / 2 ^ lk % 2 : Nat) : Int) == 0) by unfold lateB; simp)
      rcases Nat.mod_two_eq_zero_or_one (lt / 2 ^ lk) with hz | hz
      · rw [hz] at hbit HLB
        have HR := Lib.hid (HX.out true (by rw [decide_eq_true ⟨by omega, by omega⟩, HLB.out]; rfl))
        go_enter Try.func30, Try.ntmps30
        go_wp2_with fail
        rw [← HW.out]
        go_quiet (fail)
        go_wp2_with fail
        go_quiet (fail)
        go_wp2
        go_ret
        rw [← HR.out]
        exact ⟨rfl, below_drewN (below_drewN B1.out _) _⟩
      · rw [hz] at hbit HLB
        have HR := Lib.hid (HX.out any (by rw [decide_eq_true ⟨by omega, by omega⟩, HLB.out]; cases any <;> rfl))
        have HSD := Lib.hid (show ∀ k, IsSl reqRep ((W.drewN k)) (· < ((W.drewN k)).heap.size) A nr xr from fun k => HSL.out.keep (fun _ _ => rfl))
        have HQD := Lib.hid (show ∀ k, ((W.drewN k)).cell? ⟨w.heap.size, 0, none⟩ = some (.int .i64 (lk : Int)) from fun _ => q0)
        have HG1 : gm < W.heap.size := Nat.lt_of_lt_of_le hgl B1.out.size
        have HG2 : w.heap.size < W.heap.size := World.block_lt_of_cell? W _ q0
        go_enter Try.func30, Try.ntmps30
        go_wp2_with fail
        rw [← HW.out]
        go_quiet (fail)
        go_wp2_with fail
        go_region_held3 (fun w' => w'.cell? ⟨gm, 2, none⟩ = some (.int .i64 (lt : Int)) ∧ w'.cell? ⟨gm, 4, none⟩ = some (.slice A nr c) ∧ w'.cell? ⟨w.heap.size, 0, none⟩ = some (.int .i64 (lk : Int))) (first | exact ⟨c2, c4, q0⟩ | exact ⟨(B2.out.cell HG1).trans c2, (B2.out.cell HG1).trans c4, (B2.out.cell HG2).trans q0⟩ | fail)
          (first
            | (go_at_call 81; (with_reducible refine (hasReq_any A nr c xr w.heap.size (lk : Int) _ (HSD.out _) (by omega) (HQD.out _)).mono ?_); rintro e w2 ⟨rfl, bel2⟩; rw [← HANY.out]; have B2 := Lib.hid bel2; clear bel2)
            | fail)
        go_wp2
        go_ret
        rw [← HR.out]
        exact ⟨rfl, bel_n (below_drewN B1.out _) B2.out⟩
end Go.Proofs.Ythhpddiicnjmmaa

set_option linter.unusedVariables false
set_option linter.unusedSimpArgs false
set_option maxRecDepth 100000
namespace Go.Proofs.Ythhpddiicnjmmaa
open Go.RowKit

theorem pow_small {k : Nat} (h : k ≤ 8) : (2 : Int) ^ k ≤ 256 ∧ wrap64 ((2 : Int) ^ k) = 2 ^ k := by
  have hp : (2 : Nat) ^ k ≤ 2 ^ 8 := Nat.pow_le_pow_right (by omega) h
  have e : ((2 ^ k : Nat) : Int) = (2 : Int) ^ k := by simp
  have h1 : (2 : Int) ^ k ≤ 256 := by rw [← e]; exact_mod_cast hp
  have h0 : 0 ≤ (2 : Int) ^ k := by rw [← e]; exact Int.natCast_nonneg _
  exact ⟨h1, IntWalk.wrap64_in _ ⟨by omega, by omega⟩⟩

def NewPost (w : World) (ok : Bool) (x : Mx) (e : Ending) (w' : World) : Prop :=
  (ok = true ∧ ∃ gm g, e = .returned (.tuple #[.pointer (some ⟨gm, 0, none⟩), .int .i64 0]) ∧ MuxOwn w' (· < w.heap.size) gm g x ∧ Below w.heap.size w w') ∨
  (ok = false ∧ e = .returned (.tuple #[.pointer none, .int .i64 1]) ∧ Below w.heap.size w w')

set_option maxHeartbeats 8000000 in
theorem muxNew_any (tables late chunk lsn : Int) (A : Option Addr) (n c : Nat) (l : List Req) (w : World) (h : IsSl reqRep w (· < w.heap.size) A n l) (hn : n ≤ 1000000) :
    Calls Try.prog 25 #[.int .i64 tables, .int .i64 late, .int .i64 chunk, .int .i64 lsn, .slice A n c] w (NewPost w (newOk tables late chunk lsn l) (mx0 tables late chunk lsn l)) := by
  have H := Lib.hid h
  have HLEN := Lib.hid h.len
  clear h
  by_cases ht : tables < 1 ∨ 8 < tables
  · have HN := Lib.hid (show newOk tables late chunk lsn l = false by unfold newOk; rw [decide_eq_false (by omega)]; rfl)
    rcases (show tables < 1 ∨ (¬ tables < 1 ∧ 8 < tables) by omega) with h1 | ⟨h1, h2⟩
    · have d1 : decide (tables < 1) = true := decide_eq_true h1
      clear ht
      go_enter Try.func25, Try.ntmps25
      go_wp2_with fail
      go_ret2
      exact .inr ⟨HN.out, rfl, Below.refl _ _⟩
    · have d1 : decide (tables < 1) = false := decide_eq_false h1
      have d2 : decide (8 < tables) = true := decide_eq_true h2
      clear ht
      go_enter Try.func25, Try.ntmps25
      go_wp2_with fail
      go_ret2
      exact .inr ⟨HN.out, rfl, Below.refl _ _⟩
  · obtain ⟨k, rfl⟩ := Int.eq_ofNat_of_zero_le (show 0 ≤ tables by omega)
    have hk1 : 1 ≤ k := by omega
    have hk2 : k ≤ 8 := by omega
    obtain ⟨hp1, hp2⟩ := pow_small hk2
    have d1 : decide ((k : Int) < 1) = false := decide_eq_false (by omega)
    have d2 : decide (8 < (k : Int)) = false := decide_eq_false (by omega)
    clear ht
    by_cases hbad : late < 0 ∨ 2 ^ k ≤ late ∨ lsn < 0 ∨ 1099511627776 < lsn
    · have HN := Lib.hid (show newOk (k : Int) late chunk lsn l = false by unfold newOk; rw [Int.toNat_natCast, decide_eq_false (by omega)]; rfl)
      rcases (show late < 0 ∨ (¬ late < 0 ∧ 2 ^ k ≤ late) ∨ (¬ late < 0 ∧ ¬ 2 ^ k ≤ late ∧ lsn < 0) ∨ (¬ late < 0 ∧ ¬ 2 ^ k ≤ late ∧ ¬ lsn < 0 ∧ 1099511627776 < lsn) by omega) with h1 | ⟨h1, h2⟩ | ⟨h1, h2, h3⟩ | ⟨h1, h2, h3, h4⟩
      case' inl => have e1 : decide (late < 0) = true := decide_eq_true h1
      case' inr.inl => (have e1 : decide (late < 0) = false := decide_eq_false h1; have e2 : decide (2 ^ k ≤ late) = true := decide_eq_true h2)
      case' inr.inr.inl => (have e1 : decide (late < 0) = false := decide_eq_false h1; have e2 : decide (2 ^ k ≤ late) = false := decide_eq_false h2; have e3 : decide (lsn < 0) = true := decide_eq_true h3)
      case' inr.inr.inr => (have e1 : decide (late < 0) = false := decide_eq_false h1; have e2 : decide (2 ^ k ≤ late) = false := decide_eq_false h2; have e3 : decide (lsn < 0) = false := decide_eq_false h3; have e4 : decide (1099511627776 < lsn) = true := decide_eq_true h4)
      all_goals
        clear hbad
        go_enter Try.func25, Try.ntmps25
        go_wp2_with fail
        go_ret2
        exact .inr ⟨HN.out, rfl, Below.refl _ _⟩
    · have e1 : decide (late < 0) = false := decide_eq_false (by omega)
      have e2 : decide (2 ^ k ≤ late) = false := decide_eq_false (by omega)
      have e3 : decide (lsn < 0) = false := decide_eq_false (by omega)
      have e4 : decide (1099511627776 < lsn) = false := decide_eq_false (by omega)
      have HB : Hid (0 ≤ late ∧ late < 2 ^ k ∧ 0 ≤ lsn ∧ lsn ≤ 1099511627776) := Lib.hid (by omega)
      clear hbad
      cases hm : mayMx l (k : Int) lsn
      · have HM := Lib.hid hm
        have HN := Lib.hid (show newOk (k : Int) late chunk lsn l = false by unfold newOk; rw [hm, Bool.and_false])
        clear hm
        go_enter Try.func25, Try.ntmps25
        go_wp2_with (first
          | (go_at_call 73; (with_reducible refine (muxMayReqs_any A n c l (k : Int) lsn w H.out hn).mono ?_); rintro e w1 ⟨rfl, bel1⟩; rw [HM.out]; have B1 := Lib.hid bel1; clear bel1)
          | fail)
        go_ret2
        exact .inr ⟨HN.out, rfl, B1.out⟩
      · have HM := Lib.hid hm
        by_cases hc : chunk < 1 ∨ 64 < chunk
        · have HN := Lib.hid (show newOk (k : Int) late chunk lsn l = false by unfold newOk; rw [Int.toNat_natCast, decide_eq_false (by omega)]; rfl)
          have HC := Lib.hid hc
          clear hm hc
          go_enter Try.func25, Try.ntmps25
          go_wp2_with (first
            | (go_at_call 73; (with_reducible refine (muxMayReqs_any A n c l (k : Int) lsn w H.out hn).mono ?_); rintro e w1 ⟨rfl, bel1⟩; rw [HM.out]; have B1 := Lib.hid bel1; clear bel1)
            | (go_at_call 74; (with_reducible refine (winnew_no chunk w1 HC.out).mono ?_); rintro e w2 ⟨rfl, rfl⟩)
            | fail)
          go_ret2
          exact .inr ⟨HN.out, rfl, B1.out⟩
        · have HN := Lib.hid (show newOk (k : Int) late chunk lsn l = true by unfold newOk; rw [hm, Int.toNat_natCast, decide_eq_true (by have := HB.out; omega)]; rfl)
          have hc1 : 1 ≤ chunk := by omega
          have hc2 : chunk ≤ 64 := by omega
          clear hm hc
          go_enter Try.func25, Try.ntmps25
          go_wp2_with (first
            | (go_at_call 73; (with_reducible refine (muxMayReqs_any A n c l (k : Int) lsn w H.out hn).mono ?_); rintro e w1 ⟨rfl, bel1⟩; rw [HM.out]; have B1 := Lib.hid bel1; clear bel1)
            | (go_at_call 74; (with_reducible refine (winnew_ok chunk w1 hc1 hc2 (· < w1.heap.size) (fun _ h => h)).mono ?_); rintro e w2 ⟨rfl, o2, bel2⟩; have O2 := Lib.hid o2; have C2 := Lib.hid bel2; have B2 := Lib.hid (bel_n B1.out bel2); have H2 := Lib.hid (H.out.af B2.out); clear o2 bel2)
            | (go_at_call 75; (with_reducible refine (cloneReq_any A n c l w2 H2.out hn).mono ?_); rintro e w3 ⟨v3, rfl, own3, bel3⟩; obtain ⟨A3, c3, rfl, l3, m3, sl3⟩ := own3.isSlR; have SL3 := Lib.hid sl3; have B3 := Lib.hid (bel_n B2.out bel3); have C3 := Lib.hid bel3; clear own3 bel3 sl3)
            | fail)
          go_ret2
          refine .inl ⟨HN.out, w3.heap.size, w1.heap.size, rfl, ⟨fun q => w2.heap.size ≤ q ∧ q < w3.heap.size, A3, c3, ⟨Blk.new rfl rfl, ?_, l3, m3, ?_, ?_, ?_, ?_, ?_⟩⟩, B3.out.alloc B3.out.size _⟩
          · exact SL3.out.keep (fun p hp => ((Below.refl w3.heap.size w3).alloc (Nat.le_refl _) _).cell hp.2)
          · refine ((O2.out.sets (S' := fun q => q < w.heap.size ∨ (w2.heap.size ≤ q ∧ q < w3.heap.size) ∨ q = w3.heap.size) ?_ ?_).below C3.out).below ((Below.refl w3.heap.size w3).alloc (Nat.le_refl _) _)
            · have := O2.out.lt; have := B1.out.size; have := C3.out.size; omega
            · intro q hq
              have := B1.out.size
              have := C3.out.size
              rcases hq with h | h | h
              · exact .inl (Nat.lt_of_lt_of_le h B1.out.size)
              · exact .inr h.1
              · exact .inr (by omega)
          · intro q hq; simp; omega
          · intro hq; have := hq.2; omega
          · intro hq; have := B3.out.size; omega
          · intro q hq hs; have := B2.out.size; omega
end Go.Proofs.Ythhpddiicnjmmaa

set_option linter.unusedVariables false
set_option linter.unusedSimpArgs false
set_option maxRecDepth 100000
namespace Go.Proofs.Ythhpddiicnjmmaa
open Go.RowKit

section
variable {w w' w2 : World} {S : Nat → Prop} {gm g : Nat} {x : Mx}
theorem WinOwn.grown {y : Win} (h : WinOwn w S g y) {row : Option Nat} (gr : w.grownBy w' row) (hr : ∀ k, row = some k → S k) : WinOwn w' S g y := by
  obtain ⟨rv, h⟩ := h
  exact ⟨rv, h.grown gr (fun k hk => ⟨fun e => h.ng (e ▸ hr k hk), fun e => (h.nr k e).1 (hr k hk)⟩)⟩
theorem IsSl.grownT {α : Type} {R : Rep α} {T : Nat → Prop} {A : Option Addr} {n : Nat} {l : List α} (h : IsSl R w T A n l) {row : Option Nat} (gr : w.grownBy w' row) (hT : ∀ k, T k → k < w.heap.size) (hr : ∀ k, row = some k → ¬ T k) : IsSl R w' T A n l :=
  h.keep (fun p hp => World.cell?_of_block (gr.block p.block (hT _ hp) (fun e => hr _ e.symm hp)))
theorem MuxOwn.grown (h : MuxOwn w S gm g x) {row : Option Nat} (gr : w.grownBy w' row) (hr : ∀ k, row = some k → S k) : MuxOwn w' S gm g x := by
  obtain ⟨T, A, c, h⟩ := h
  exact ⟨T, A, c, h.blk.grown gr (fun k hk e => h.nS (e ▸ hr k hk)), h.reqs.grownT gr h.hT (fun k hk hT => h.dT k hT (hr k hk)), h.c1, h.c2, h.win.grown gr (fun k hk => .inl (hr k hk)), fun k hk => Nat.lt_of_lt_of_le (h.hT k hk) gr.size, h.nT, h.nS, h.dT⟩
theorem MuxOwn.below (h : MuxOwn w S gm g x) (hb : Below w.heap.size w w') : MuxOwn w' S gm g x := h.grown (grown_of_below hb none) (fun k hk => by cases hk)
theorem MuxOwn.alloc (h : MuxOwn w S gm g x) (o : Obj) : MuxOwn (w.alloc o) S gm g x := h.below ((Below.refl _ _).alloc (Nat.le_refl _) o)
theorem MuxOwn.drewN (h : MuxOwn w S gm g x) (n : Nat) : MuxOwn (w.drewN n) S gm g x := h.below (below_drewN (Below.refl _ _) n)
theorem MuxOwn.set (h : MuxOwn w S gm g x) {b : Nat} (hb : S b) (j : Nat) (v : Value) : MuxOwn (w.setCell ⟨b, j, none⟩ v) S gm g x := h.grown (grown_setB w ⟨b, j, none⟩ v) (fun k hk => by injection hk with hk; exact hk ▸ hb)
theorem MuxOwn.lt (h : MuxOwn w S gm g x) : gm < w.heap.size := by obtain ⟨_, _, _, h⟩ := h; exact h.blk.lt
theorem MuxOwn.nS (h : MuxOwn w S gm g x) : ¬ S gm := by obtain ⟨_, _, _, h⟩ := h; exact h.nS
/-- Newer blocks, or fewer, are not the mux's either. -/
theorem MuxOwn.sets {S' : Nat → Prop} (h : MuxOwn w S gm g x) (hS : ∀ k, S' k → S k ∨ w.heap.size ≤ k) : MuxOwn w S' gm g x := by
  obtain ⟨T, A, c, h⟩ := h
  have n1 : ∀ k, k < w.heap.size → ¬ S k → ¬ S' k := fun k hk hn hs => by rcases hS k hs with h | h; exact hn h; omega
  have hgl := h.win.lt
  refine ⟨T, A, c, h.blk, h.reqs, h.c1, h.c2, h.win.sets ?_ ?_, h.hT, h.nT, n1 _ h.blk.lt h.nS, fun k hk => n1 k (h.hT k hk) (h.dT k hk)⟩
  · rintro (h1 | h1 | h1)
    · exact n1 g hgl (fun e => h.win.ng (.inl e)) h1
    · exact h.win.ng (.inr (.inl h1))
    · exact h.win.ng (.inr (.inr h1))
  · rintro k (h1 | h1 | h1)
    · rcases hS k h1 with h2 | h2
      · exact .inl (.inl h2)
      · exact .inr h2
    · exact .inl (.inr (.inl h1))
    · exact .inl (.inr (.inr h1))
theorem MuxOwn.step (h : MuxOwn w S gm g x) (hb : Below w.heap.size w w2) : MuxOwn w2 (fun k => S k ∨ (w.heap.size ≤ k ∧ k < w2.heap.size)) gm g x :=
  (h.sets (S' := fun k => S k ∨ (w.heap.size ≤ k ∧ k < w2.heap.size)) (fun k hk => hk.elim .inl (fun h => .inr h.1))).below hb
/-- Its cells. -/
theorem MuxOwn.cells (h : MuxOwn w S gm g x) : ∃ T A c, (Blk w gm [.pointer (some ⟨g, 0, none⟩), .int .i64 x.tables, .int .i64 x.late, .int .i64 x.at_, .slice A x.reqs.length c]) ∧ IsSl reqRep w T A x.reqs.length x.reqs ∧ x.reqs.length ≤ c ∧ c ≤ maxLen ∧ (∀ k, T k → k < w.heap.size) := by
  obtain ⟨T, A, c, h⟩ := h
  exact ⟨T, A, c, h.blk, h.reqs, h.c1, h.c2, h.hT⟩
end

/-- Other requests, in newer blocks. -/
theorem MuxOwn.newReqs {w w2 : World} {S : Nat → Prop} {gm g : Nat} {x : Mx} {M : List Req} {A2 : Option Addr} {n2 c2 : Nat} (h : MuxOwn w S gm g x) (hb : Below w.heap.size w w2) (hS : ∀ k, S k → k < w.heap.size) (sl : IsSl reqRep w2 (fun k => w.heap.size ≤ k ∧ k < w2.heap.size) A2 n2 M) (l : n2 ≤ c2) (m : c2 ≤ maxLen) :
    MuxOwn (w2.setCell ⟨gm, 4, none⟩ (.slice A2 n2 c2)) S gm g (x.setReqs M) ∧ Rest S w (w2.setCell ⟨gm, 4, none⟩ (.slice A2 n2 c2)) := by
  obtain ⟨T, A, c, h⟩ := h
  have hgl := h.blk.lt
  have hn := sl.len
  subst hn
  refine ⟨⟨fun k => w.heap.size ≤ k ∧ k < w2.heap.size, A2, c2, (h.blk.after hb).put (j := 4) (by simp) _ rfl, ?_, l, m, ?_, fun k hk => by simp; exact hk.2, fun hk => by omega, h.nS, fun k hk hs => by have := hS k hs; omega⟩, ((Rest.refl S w).below hS hb).set h.nS _ _⟩
  · exact sl.grownT (grown_setB w2 ⟨gm, 4, none⟩ _) (fun k hk => hk.2) (fun k hk hT => by injection hk with hk; dsimp only at hk; omega)
  · refine ((h.win.sets (S' := fun k => S k ∨ (w.heap.size ≤ k ∧ k < w2.heap.size) ∨ k = gm) ?_ ?_).below hb).grown (grown_setB w2 ⟨gm, 4, none⟩ _) (fun k hk => by injection hk with hk; exact .inr (.inr hk.symm))
    · rintro (h1 | h1 | h1)
      · exact h.win.ng (.inl h1)
      · have := h.win.lt; omega
      · exact h.win.ng (.inr (.inr h1))
    · rintro k (h1 | h1 | h1)
      · exact .inl (.inl h1)
      · exact .inr h1.1
      · exact .inl (.inr (.inr h1))
theorem rest_bounds (l : List UInt8) : 0 ≤ (restOf l).1 ∧ (restOf l).1 ≤ 7 ∧ 0 ≤ (restOf l).2.1 ∧ (restOf l).2.1 ≤ 8 := by
  unfold restOf
  split
  · split
    · dsimp only; omega
    · dsimp only; omega
  · split
    · dsimp only; omega
    · dsimp only; omega
  · dsimp only; omega
theorem parse_bounds (l : List UInt8) : 0 ≤ (parseS l).1 ∧ (parseS l).1 ≤ 7 ∧ 0 ≤ (parseS l).2.1 ∧ (parseS l).2.1 ≤ 8 := by
  unfold parseS
  split
  · exact rest_bounds _
  · dsimp only; omega
theorem i64_small (z : Int) (h : 0 ≤ z) (h2 : z ≤ 1000) : I64 z := by unfold I64; omega
theorem may_short {l : List Req} (h : mayB l = true) : l.length ≤ 64 := by
  unfold mayB at h
  rw [Bool.and_eq_true] at h
  exact of_decide_eq_true h.2
theorem acceptO_some {l M : List Req} {t wt a : Int} (h : acceptO l t wt a = some M) : M = l ++ [⟨(l.length : Int) + 1, t, wt, a, 0, 0, false⟩] ∧ mayB M = true := by
  unfold acceptO at h
  split at h
  · rename_i hc
    rw [Bool.and_eq_true] at hc
    obtain rfl := Option.some.inj h
    exact ⟨rfl, hc.2⟩
  · cases h

/-- What accept leaves. -/
def AccPost (w : World) (S : Nat → Prop) (gm g : Nat) (x : Mx) (s : ByteArray) (lsn : Int) (e : Ending) (w' : World) : Prop :=
  ∃ A n c, e = .returned (.slice A n c) ∧ IsSl noteRep w' (fun k => w.heap.size ≤ k ∧ k < w'.heap.size) A n (x.accN s lsn) ∧ n ≤ c ∧ c ≤ maxLen ∧ MuxOwn w' S gm g (x.acc s lsn) ∧ Rest S w w'

set_option maxHeartbeats 8000000 in
theorem muxAccept_any (S : Nat → Prop) (gm g : Nat) (x : Mx) (w : World) (hS : ∀ k, S k → k < w.heap.size) (h : MuxOwn w S gm g x) (hf : x.reqs.length ≤ 64) (s : ByteArray) (hs : s.size ≤ maxLen) (lsn : Int) (hl : I64 lsn) :
    Calls Try.prog 133 #[.pointer (some ⟨gm, 0, none⟩), .string s, .int .i64 lsn] w (AccPost w S gm g x s lsn) := by
  have HO := Lib.hid h
  have HS := Lib.hid hS
  have hg0 := h.lt
  obtain ⟨pb1, pb2, pb3, pb4⟩ := parse_bounds s.data.toList
  obtain ⟨⟨ga, gb, gc⟩, hp⟩ : ∃ p, p = parseS s.data.toList := ⟨_, rfl⟩
  rw [← hp] at pb1 pb2 pb3 pb4
  dsimp only at pb1 pb2 pb3 pb4
  have HP := Lib.hid (show sigV (parseS s.data.toList) = .tuple #[.agg #[.int .i64 ga, .int .i64 gb], .bool gc] by rw [← hp]; rfl)
  have HACC := Lib.hid (show x.accO s lsn = if gc = true ∧ ga < x.tables then acceptO x.reqs ga gb lsn else none by unfold Mx.accO; rw [← hp])
  have HN1 := Lib.hid (show ∀ M, x.accO s lsn = some M → x.accN s lsn = [⟨1, M.length, ga, gb, lsn, 0, false⟩] ∧ x.acc s lsn = x.setReqs M by intro M hM; unfold Mx.accN Mx.acc; rw [hM, ← hp]; exact ⟨rfl, rfl⟩)
  have HN0 := Lib.hid (show x.accO s lsn = none → x.accN s lsn = [] ∧ x.acc s lsn = x by intro hM; unfold Mx.accN Mx.acc; rw [hM]; exact ⟨rfl, rfl⟩)
  clear hp h hS
  cases gc with
  | false =>
    have HZ := Lib.hid (HN0.out (by rw [HACC.out, if_neg (by simp)]))
    go_enter Try.func133, Try.ntmps133
    go_wp2_with (first
      | (go_at_call 155; (with_reducible refine (parse_any s w hs).mono ?_); rintro e w1 ⟨rfl, bel1⟩; rw [HP.out]; have B1 := Lib.hid bel1; clear bel1)
      | fail)
    go_quiet (fail)
    go_wp2
    go_ret
    unfold AccPost
    rw [HZ.out.1, HZ.out.2]
    exact ⟨none, 0, 0, rfl, IsSl.nil, Nat.le_refl _, Nat.zero_le _, HO.out.below (below_drewN ((B1.out).alloc B1.out.size _) _), (Rest.refl S w).below HS.out (below_drewN ((B1.out).alloc B1.out.size _) _)⟩
  | true =>
    by_cases htab : ga < x.tables
    case neg =>
      have HZ := Lib.hid (HN0.out (by rw [HACC.out, if_neg (by simp; omega)]))
      have hd : decide (x.tables ≤ ga) = true := decide_eq_true (by omega)
      go_enter Try.func133, Try.ntmps133
      go_wp2_with (first
        | (go_at_call 155; (with_reducible refine (parse_any s w hs).mono ?_); rintro e w1 ⟨rfl, bel1⟩; rw [HP.out]; obtain ⟨W, hW⟩ : ∃ W, W = w1.alloc (.cells #[.int .i64 ga, .int .i64 gb] 74) := ⟨_, rfl⟩; have HW := Lib.hid hW; have BW := Lib.hid (show Below w.heap.size w W by rw [hW]; exact bel1.alloc bel1.size _); have q0 : W.cell? ⟨w1.heap.size, 0, none⟩ = some (.int .i64 ga) := (by rw [hW]; exact World.cell?_alloc_at _ _ _ _ rfl); obtain ⟨T, A, c, hblk, _, _, _, _⟩ := (HO.out.below BW.out).cells; obtain ⟨c0, c1, c2, c3, c4, cz⟩ := hblk.c5; clear bel1 hW hblk)
        | fail)
      rw [← HW.out]
      go_quiet (fail)
      go_wp2
      go_ret
      unfold AccPost
      rw [HZ.out.1, HZ.out.2]
      exact ⟨none, 0, 0, rfl, IsSl.nil, Nat.le_refl _, Nat.zero_le _, (HO.out.below BW.out).drewN _, (Rest.refl S w).below HS.out (below_drewN BW.out _)⟩
    case pos =>
      have HA2 := Lib.hid (show x.accO s lsn = acceptO x.reqs ga gb lsn by rw [HACC.out, if_pos ⟨rfl, htab⟩])
      have hd : decide (x.tables ≤ ga) = false := decide_eq_false (by omega)
      obtain ⟨o, ho⟩ : ∃ o, o = acceptO x.reqs ga gb lsn := ⟨_, rfl⟩
      have HOO := Lib.hid ho
      cases o with
      | none =>
        have HZ := Lib.hid (HN0.out (by rw [HA2.out, ← ho]))
        clear ho
        go_enter Try.func133, Try.ntmps133
        go_wp2_with (first
          | (go_at_call 155; (with_reducible refine (parse_any s w hs).mono ?_); rintro e w1 ⟨rfl, bel1⟩; rw [HP.out]; obtain ⟨W, hW⟩ : ∃ W, W = w1.alloc (.cells #[.int .i64 ga, .int .i64 gb] 74) := ⟨_, rfl⟩; have HW := Lib.hid hW; have BW := Lib.hid (show Below w.heap.size w W by rw [hW]; exact bel1.alloc bel1.size _); have q0 : W.cell? ⟨w1.heap.size, 0, none⟩ = some (.int .i64 ga) := (by rw [hW]; exact World.cell?_alloc_at _ _ _ _ rfl); have q1 : W.cell? ⟨w1.heap.size, 1, none⟩ = some (.int .i64 gb) := (by rw [hW]; exact World.cell?_alloc_at _ _ _ _ rfl); obtain ⟨T, A, c, hblk, hsl, hc1, hc2, hT⟩ := (HO.out.below BW.out).cells; obtain ⟨c0, c1, c2, c3, c4, cz⟩ := hblk.c5; have HSD := Lib.hid (show ∀ k, IsSl reqRep (W.drewN k) (· < (W.drewN k).heap.size) A x.reqs.length x.reqs from fun k => (hsl.weak hT).keep (fun _ _ => rfl)); have HG1 : gm < W.heap.size := hblk.lt; have HG2 : w1.heap.size < W.heap.size := World.block_lt_of_cell? W _ q0; clear bel1 hW hblk hsl)
          | fail)
        rw [← HW.out]
        go_quiet (fail)
        go_wp2_with fail
        go_region_held3 (fun w' => w'.cell? ⟨gm, 4, none⟩ = some (.slice A x.reqs.length c) ∧ w'.cell? ⟨w1.heap.size, 0, none⟩ = some (.int .i64 ga) ∧ w'.cell? ⟨w1.heap.size, 1, none⟩ = some (.int .i64 gb)) (first | exact ⟨c4, q0, q1⟩ | exact ⟨(B2.out.cell HG1).trans c4, (B2.out.cell HG2).trans q0, (B2.out.cell HG2).trans q1⟩ | fail)
          (first
            | (go_at_call 156; (with_reducible refine (accept_any A x.reqs.length c x.reqs ga gb lsn _ (HSD.out _) (by omega) (by unfold I64; omega) (by unfold I64; omega) hl).mono ?_); rintro e w2 ⟨v2, rfl, own2, bel2⟩; rw [← HOO.out] at own2 ⊢; have B2 := Lib.hid bel2; have O2 := Lib.hid own2; clear bel2 own2)
            | fail)
        go_wp2
        go_ret
        unfold AccPost
        rw [HZ.out.1, HZ.out.2]
        exact ⟨none, 0, 0, rfl, IsSl.nil, Nat.le_refl _, Nat.zero_le _, HO.out.below (bel_n (below_drewN BW.out _) B2.out), (Rest.refl S w).below HS.out (bel_n (below_drewN BW.out _) B2.out)⟩
      | some M =>
        obtain ⟨hM1, hM2⟩ := acceptO_some ho.symm
        have hML := may_short hM2
        have HZ := Lib.hid (HN1.out M (by rw [HA2.out, ← ho]))
        obtain ⟨m, hm⟩ : ∃ m, m = M.length := ⟨_, rfl⟩
        rw [← hm] at hML HZ
        have HM := Lib.hid hm
        have hwf : (⟨1, (m : Int), ga, gb, lsn, 0, false⟩ : Note).wf := ⟨i64_small 1 (by omega) (by omega), i64_small (m : Int) (by omega) (by omega), i64_small ga pb1 (by omega), i64_small gb pb3 (by omega), hl, i64_small 0 (by omega) (by omega)⟩
        have HWF := Lib.hid hwf
        clear ho hM1 hM2 hm hwf
        go_enter Try.func133, Try.ntmps133
        go_wp2_with (first
          | (go_at_call 155; (with_reducible refine (parse_any s w hs).mono ?_); rintro e w1 ⟨rfl, bel1⟩; rw [HP.out]; obtain ⟨W, hW⟩ : ∃ W, W = w1.alloc (.cells #[.int .i64 ga, .int .i64 gb] 74) := ⟨_, rfl⟩; have HW := Lib.hid hW; have BW := Lib.hid (show Below w.heap.size w W by rw [hW]; exact bel1.alloc bel1.size _); have q0 : W.cell? ⟨w1.heap.size, 0, none⟩ = some (.int .i64 ga) := (by rw [hW]; exact World.cell?_alloc_at _ _ _ _ rfl); have q1 : W.cell? ⟨w1.heap.size, 1, none⟩ = some (.int .i64 gb) := (by rw [hW]; exact World.cell?_alloc_at _ _ _ _ rfl); have HMO := Lib.hid (HO.out.below BW.out); obtain ⟨T, A, c, hblk, hsl, hc1, hc2, hT⟩ := (HO.out.below BW.out).cells; obtain ⟨c0, c1, c2, c3, c4, cz⟩ := hblk.c5; have HBK := Lib.hid hblk; have HSD := Lib.hid (show ∀ k, IsSl reqRep (W.drewN k) (· < (W.drewN k).heap.size) A x.reqs.length x.reqs from fun k => (hsl.weak hT).keep (fun _ _ => rfl)); have HG1 : gm < W.heap.size := hblk.lt; have HG2 : w1.heap.size < W.heap.size := World.block_lt_of_cell? W _ q0; have hg1 : gm < w1.heap.size := Nat.lt_of_lt_of_le hg0 bel1.size; have n1 : (w1.heap.size = gm) = False := (by simp; omega); have n2 : (gm = w1.heap.size) = False := (by simp; omega); clear bel1 hW hblk hsl)
          | fail)
        rw [← HW.out]
        go_quiet (fail)
        go_wp2_with fail
        go_region_held3 (fun w' => w'.cell? ⟨gm, 4, none⟩ = some (.slice A x.reqs.length c) ∧ w'.cell? ⟨w1.heap.size, 0, none⟩ = some (.int .i64 ga) ∧ w'.cell? ⟨w1.heap.size, 1, none⟩ = some (.int .i64 gb)) (first | exact ⟨c4, q0, q1⟩ | exact ⟨(B2.out.cell HG1).trans c4, (B2.out.cell HG2).trans q0, (B2.out.cell HG2).trans q1⟩ | fail)
          (first
            | (go_at_call 156; (with_reducible refine (accept_any A x.reqs.length c x.reqs ga gb lsn _ (HSD.out _) (by omega) (by unfold I64; omega) (by unfold I64; omega) hl).mono ?_); rintro e w2 ⟨v2, rfl, own2, bel2⟩; rw [← HOO.out] at own2 ⊢; obtain ⟨A2, d2, rfl, l2, m2, s2⟩ := own2.isSlR; rw [show (some M).getD [] = M from rfl] at s2 l2 ⊢; rw [← HM.out] at s2 l2 ⊢; have B2 := Lib.hid bel2; have S2 := Lib.hid s2; clear own2 s2 bel2)
            | fail)
        obtain ⟨b0, b1, b2, b3, b4, bz⟩ := ((HBK.out.drewN _).after B2.out).c5
        have r0 := (B2.out.cell (p := ⟨w1.heap.size, 0, none⟩) HG2).trans q0
        have r1 := (B2.out.cell (p := ⟨w1.heap.size, 1, none⟩) HG2).trans q1
        clear c0 c1 c2 c3 c4 cz q0 q1
        go_wp2
        go_ret
        unfold AccPost
        rw [HZ.out.1, HZ.out.2]
        obtain ⟨o3, r3⟩ := (HMO.out.drewN _).newReqs B2.out (fun k hk => Nat.lt_of_lt_of_le (HS.out k hk) BW.out.size) S2.out l2 m2
        have hb3 := (Below.refl (w2.setCell ⟨gm, 4, none⟩ (.slice A2 m d2)).heap.size (w2.setCell ⟨gm, 4, none⟩ (.slice A2 m d2))).alloc (Nat.le_refl _) (.cells #[.int .i64 1, .int .i64 (m : Int), .int .i64 ga, .int .i64 gb, .int .i64 lsn, .int .i64 0, .bool false] 91)
        have hs2 := B2.out.size
        have hs1 := BW.out.size
        refine ⟨_, _, _, rfl, IsSl.ofBlk1 (Blk.new rfl (by simp)) ⟨rfl, HWF.out⟩ ?_, Nat.le_refl _, by decide, o3.below hb3, ((Rest.refl S w).below HS.out (below_drewN BW.out _)).trans (r3.below (fun k hk => ?_) hb3)⟩
        · simp; exact Nat.le_trans hs1 hs2
        · simp; exact Nat.lt_of_lt_of_le (HS.out k hk) (Nat.le_trans hs1 hs2)
end Go.Proofs.Ythhpddiicnjmmaa

set_option linter.unusedVariables false
set_option linter.unusedSimpArgs false
set_option maxRecDepth 100000
namespace Go.Proofs.Ythhpddiicnjmmaa
open Go.RowKit

theorem info_note : (Try.prog.info? 91).map (fun i => (i.zero, i.size, i.bytes)) = some (some (.agg #[.int .i64 0, .int .i64 0, .int .i64 0, .int .i64 0, .int .i64 0, .int .i64 0, .bool false]), 7, 56) := by kernel_rfl

section
variable {w w' w2 wr : World} {S Sr : Nat → Prop} {gm g : Nat} {x y : Mx}
theorem Rest.cell {a b : World} (h : Rest S a b) {p : Addr} (hp : S p.block) : b.cell? p = a.cell? p := World.cell?_of_block (h.block p.block hp)
theorem cell_grown {row : Option Nat} (gr : w.grownBy w' row) {p : Addr} (hp : p.block < w.heap.size) (hr : row ≠ some p.block) : w'.cell? p = w.cell? p := World.cell?_of_block (gr.block p.block hp (fun e => hr e.symm))
theorem Rest.grown {a b c : World} (h : Rest S a b) {row : Option Nat} (gr : b.grownBy c row) (hS : ∀ k, S k → k < b.heap.size) (hr : ∀ k, row = some k → ¬ S k) : Rest S a c :=
  ⟨gr.os.trans h.os, gr.tape.trans h.tape, gr.output.trans h.output, Nat.le_trans h.size gr.size, fun k hk => (gr.block k (hS k hk) (fun e => hr k e.symm hk)).trans (h.block k hk)⟩
theorem Own.rest {α : Type} {R : Rep α} {base : Nat} {e : TypeId} {v : Value} {l : List α} (h : Own R w base (fun _ => False) e v l) (hr : Rest S w w') (hrow : ∀ r, rowOf v = some r → S r) : Own R w' base (fun _ => False) e v l := by
  refine ⟨fun _ h => h.elim, ?_⟩
  rcases h.2 with h1 | ⟨q, cap, cur, xss, rfl, h2, h3, h4, h5, h6, h7, h8, h9⟩
  · exact .inl h1
  · by_cases hc : cap = 0
    · subst hc
      have hl : l = [] := List.eq_nil_of_length_eq_zero (by omega)
      subst hl
      exact .inl ⟨_, rfl, rfl⟩
    · refine .inr ⟨q, cap, cur, xss, rfl, h2, h3, ?_, h5, h6, h7, h8.keep (fun _ h => h.elim), h9⟩
      rw [hr.block q (hrow q (by cases cap; exact absurd rfl hc; rfl))]
      exact h4
theorem IsSl.strT {T : Nat → Prop} {n k : Nat} {A : Option Addr} {l : List ByteArray} (h : IsSl strRep w T A n l) (hk : k < n) (hw : ∀ p : Addr, T p.block → w'.cell? p = w.cell? p) :
    ∃ b off s, A = some ⟨b, off, none⟩ ∧ T b ∧ l[k]? = some s ∧ s.size ≤ maxLen ∧ w'.cell? ⟨b, off + k, none⟩ = some (.string s) := by
  obtain ⟨b, off, s, cs, rfl, hb, hx, ⟨rfl, hw2⟩, hc⟩ := h.at_ hk
  have e := hc 0 _ rfl
  rw [show off + k * strRep.size + 0 = off + k by show off + k * 1 + 0 = _; omega] at e
  exact ⟨b, off, s, rfl, hb, hx, hw2, (hw _ hb).trans e⟩
theorem IsSl.chgT {T : Nat → Prop} {n k : Nat} {A : Option Addr} {l : List Chg} (h : IsSl chgRep w T A n l) (hk : k < n) (hw : ∀ p : Addr, T p.block → w'.cell? p = w.cell? p) :
    ∃ b off x, A = some ⟨b, off, none⟩ ∧ T b ∧ l[k]? = some x ∧ x.wf ∧ w'.cell? ⟨b, off + k * 4, none⟩ = some (.int .i64 x.table) ∧ w'.cell? ⟨b, off + k * 4 + 1, none⟩ = some (.int .i64 x.key) ∧ w'.cell? ⟨b, off + k * 4 + 2, none⟩ = some (.bool x.gone) ∧ w'.cell? ⟨b, off + k * 4 + 3, none⟩ = some (.string x.val) := by
  obtain ⟨b, off, x, cs, rfl, hb, hx, ⟨rfl, hw2⟩, hc⟩ := h.at_ hk
  exact ⟨b, off, x, rfl, hb, hx, hw2, (hw _ hb).trans (hc 0 _ rfl), (hw _ hb).trans (hc 1 _ rfl), (hw _ hb).trans (hc 2 _ rfl), (hw _ hb).trans (hc 3 _ rfl)⟩
/-- The window goes on. -/
theorem MuxAt.newWin {T : Nat → Prop} {A : Option Addr} {c : Nat} {z : Win} (h : MuxAt w S T gm g x A c) (o : WinOwn w' (fun k => S k ∨ T k ∨ k = gm) g z) (r : Rest (fun k => S k ∨ T k ∨ k = gm) w w') : MuxAt w' S T gm g (x.setWin z) A c :=
  ⟨h.blk.rest r (.inr (.inr rfl)), h.reqs.rest r (fun k hk => .inr (.inl hk)), h.c1, h.c2, o, fun k hk => Nat.lt_of_lt_of_le (h.hT k hk) r.size, h.nT, h.nS, h.dT⟩
theorem accN_len (x : Mx) (s : ByteArray) (lsn : Int) : (x.accN s lsn).length ≤ 1 := by
  unfold Mx.accN
  split
  · simp
  · simp
theorem accs_len (x : Mx) (lsn : Int) : ∀ (l : List ByteArray), (x.accs lsn l).2.length ≤ l.length := by
  intro l
  have : ∀ (l : List ByteArray) (p : Mx × List Note), (l.foldl (fun p s => (p.1.acc s lsn, p.2 ++ p.1.accN s lsn)) p).2.length ≤ p.2.length + l.length := by
    intro l
    induction l with
    | nil => intro p; simp
    | cons s t ih =>
      intro p
      rw [List.foldl_cons]
      refine Nat.le_trans (ih _) ?_
      have := accN_len p.1 s lsn
      simp only [List.length_append, List.length_cons]
      omega
  have h := this l (x, [])
  simpa [Mx.accs] using h
theorem Mx.Fine.acc (h : x.Fine) (s : ByteArray) (lsn : Int) : (x.acc s lsn).Fine := by
  unfold Mx.acc
  split
  · rename_i l hl
    unfold Mx.accO at hl
    split at hl
    · rename_i hc
      obtain ⟨rfl, hm⟩ := acceptO_some hl
      refine ⟨h.t1, h.t2, h.l1, h.l2, h.a1, h.a2, hm, ?_, h.win⟩
      intro r hr
      rcases List.mem_append.1 hr with h1 | h1
      · exact h.tabs r h1
      · obtain rfl := List.mem_singleton.1 h1
        exact hc.2
    · cases hl
  · exact h
theorem Mx.Fine.accs (h : x.Fine) (lsn : Int) (l : List ByteArray) : (x.accs lsn l).1.Fine := by
  have : ∀ (l : List ByteArray) (p : Mx × List Note), p.1.Fine → (l.foldl (fun p s => (p.1.acc s lsn, p.2 ++ p.1.accN s lsn)) p).1.Fine := by
    intro l
    induction l with
    | nil => intro p hp; exact hp
    | cons s t ih => intro p hp; rw [List.foldl_cons]; exact ih _ (hp.acc s lsn)
  exact this l (x, []) h

/-- Between the steps of client: t, the result and the item lie in the blocks tb, rb, xb; Sr: blocks that are not the mux's. -/
structure Cli (w wr : World) (S Sr : Nat → Prop) (gm g tb rb xb : Nat) (y : Mx) (tc xv : List Value) : Prop where
  sub : ∀ k, S k → Sr k
  old : ∀ k, S k → k < w.heap.size
  hS : ∀ k, Sr k → k < wr.heap.size
  stb : Sr tb
  srb : Sr rb
  sxb : Sr xb
  own : MuxOwn wr Sr gm g y
  bt : Blk wr tb tc
  br : Blk wr rb [.int .i64 0, .slice none 0 0, .slice none 0 0]
  bx : Blk wr xb xv
  rest : Rest S w wr
theorem Cli.szs {tb rb xb : Nat} {tc xv : List Value} (h : Cli w wr S Sr gm g tb rb xb y tc xv) : tb < wr.heap.size ∧ rb < wr.heap.size ∧ xb < wr.heap.size := ⟨h.bt.lt, h.br.lt, h.bx.lt⟩
theorem cli_start {TB RB XB : Nat} {W : World} {tc : Array Value} {t1 t2 t3 : TypeId} {tl : Int} (hS : ∀ k, S k → k < w.heap.size) (h : MuxOwn w S gm g x) (h1 : TB = w.heap.size) (h2 : RB = w.heap.size + 1) (h3 : XB = w.heap.size + 1 + 1)
    (hW : W = ((w.alloc (.cells tc t1)).alloc (.cells #[.int .i64 0, .slice none 0 0, .slice none 0 0] t2)).alloc (.cells #[.int .i64 tl, .slice none 0 0, .slice none 0 0] t3)) :
    Cli w W S (fun k => S k ∨ (w.heap.size ≤ k ∧ k < W.heap.size)) gm g TB RB XB (x.accs tl []).1 tc.toList [.int .i64 tl, .slice none 0 0, .slice none 0 0] := by
  have hb : Below w.heap.size w W := by rw [hW]; exact (((Below.refl _ _).alloc (Nat.le_refl _) _).alloc (by simp) _).alloc (by simp; omega) _
  have hs : W.heap.size = w.heap.size + 3 := by rw [hW]; simp
  refine ⟨fun k hk => .inl hk, hS, fun k hk => hk.elim (fun h => by have := hS k h; omega) (fun h => h.2), .inr (by omega), .inr (by omega), .inr (by omega), h.step hb, ?_, ?_, ?_, (Rest.refl S w).below hS hb⟩
  · rw [hW, h1]; exact ((Blk.new rfl rfl).alloc _).alloc _
  · rw [hW, h2]; exact (Blk.new rfl (by simp)).alloc _
  · rw [hW, h3]; exact Blk.new rfl (by simp)
theorem row_new {α : Type} {R : Rep α} {v v' : Value} {base : Nat} {e : TypeId} {l : List α} {w7 : World} (at_ : v' = v ∨ rowOf v' = rowOf v ∨ rowOf v' = some w2.heap.size) (gr : w2.grownBy w7 (rowOf v)) (hr : ∀ r, rowOf v = some r → Sr r) (own : Own R w7 base (fun _ => False) e v' l) {r : Nat} (h : rowOf v' = some r) : Sr r ∨ (w2.heap.size ≤ r ∧ r < w7.heap.size) := by
  rcases at_ with rfl | h1 | h1
  · exact .inl (hr r h)
  · exact .inl (hr r (h1 ▸ h))
  · rw [h] at h1; injection h1 with h1; exact .inr ⟨by omega, own.row_lt h⟩
/-- A note's place: the item's third field is stored, behind an append onto its row. -/
theorem Cli.noted {TB RB XB : Nat} {tc : List Value} {tl : Int} {v : Value} {z : Mx} {w7 : World} (h : Cli w wr S Sr gm g TB RB XB y tc [.int .i64 tl, .slice none 0 0, v]) (r : Rest Sr (wr.drewN 1) w2) (o : MuxOwn w2 Sr gm g z) (h1 : TB = w.heap.size) (h2 : RB = w.heap.size + 1) (h3 : XB = w.heap.size + 1 + 1) (hge : ∀ {k}, rowOf v = some k → XB + 1 ≤ k) (hrow : ∀ k, rowOf v = some k → Sr k) (gr : w2.grownBy w7 (rowOf v)) (v7 : Value) :
    Cli w (w7.setCell ⟨XB, 2, none⟩ v7) S (fun k => Sr k ∨ (w2.heap.size ≤ k ∧ k < w7.heap.size)) gm g TB RB XB z tc [.int .i64 tl, .slice none 0 0, v7] := by
  have hr1 : Rest Sr wr w2 := ⟨r.os, r.tape, r.output, r.size, r.block⟩
  have hs2 := hr1.size
  have hs7 := gr.size
  have hrestw : Rest S w w2 := h.rest.trans (hr1.less h.sub)
  have hwr := h.rest.size
  refine ⟨fun k hk => .inl (h.sub k hk), h.old, fun k hk => by
    rw [show (w7.setCell ⟨XB, 2, none⟩ v7).heap.size = w7.heap.size by simp]
    rcases hk with hk | hk
    · exact Nat.lt_of_lt_of_le (h.hS k hk) (Nat.le_trans hs2 hs7)
    · exact hk.2, .inl h.stb, .inl h.srb, .inl h.sxb, ?_, ?_, ?_, ?_, ?_⟩
  · exact ((o.sets (S' := fun k => Sr k ∨ (w2.heap.size ≤ k ∧ k < w7.heap.size)) (fun k hk => hk.elim .inl (fun h => .inr h.1))).grown gr (fun k hk => .inl (hrow k hk))).set (.inl h.sxb) _ _
  · exact ((h.bt.rest hr1 h.stb).grown gr (fun k hk e => by have := hge hk; omega)).other (by omega) _ _
  · exact ((h.br.rest hr1 h.srb).grown gr (fun k hk e => by have := hge hk; omega)).other (by omega) _ _
  · exact ((h.bx.rest hr1 h.sxb).grown gr (fun k hk e => by have := hge hk; omega)).put (j := 2) (by simp) _ rfl
  · exact (hrestw.grown gr (fun k hk => by have := h.old k hk; omega) (fun k hk hs => by have := hge hk; have := h.old k hs; omega)).set (fun hs => by have := h.old _ hs; omega) _ _
theorem Cli.below {TB RB XB : Nat} {tc xv : List Value} (h : Cli w wr S Sr gm g TB RB XB y tc xv) (hb : Below wr.heap.size wr w2) : Cli w w2 S Sr gm g TB RB XB y tc xv :=
  ⟨h.sub, h.old, fun k hk => Nat.lt_of_lt_of_le (h.hS k hk) hb.size, h.stb, h.srb, h.sxb, h.own.below hb, h.bt.after hb, h.br.after hb, h.bx.after hb, h.rest.below (fun k hk => h.hS k (h.sub k hk)) hb⟩
/-- A field of the item is stored, behind an append onto its row. -/
theorem Cli.stored {TB RB XB : Nat} {tc xv : List Value} {v : Value} {w7 : World} (h : Cli w w2 S Sr gm g TB RB XB y tc xv) (h1 : TB = w.heap.size) (h2 : RB = w.heap.size + 1) (h3 : XB = w.heap.size + 1 + 1) (hge : ∀ {k}, rowOf v = some k → XB + 1 ≤ k) (hrow : ∀ k, rowOf v = some k → Sr k) (gr : w2.grownBy w7 (rowOf v)) (j : Nat) (hj : j < xv.length) (v7 : Value) {xv' : List Value} (hx : xv' = xv.set j v7) :
    Cli w (w7.setCell ⟨XB, j, none⟩ v7) S (fun k => Sr k ∨ (w2.heap.size ≤ k ∧ k < w7.heap.size)) gm g TB RB XB y tc xv' := by
  have hs7 := gr.size
  have hwr := h.rest.size
  refine ⟨fun k hk => .inl (h.sub k hk), h.old, fun k hk => by
    rw [show (w7.setCell ⟨XB, j, none⟩ v7).heap.size = w7.heap.size by simp]
    rcases hk with hk | hk
    · exact Nat.lt_of_lt_of_le (h.hS k hk) hs7
    · exact hk.2, .inl h.stb, .inl h.srb, .inl h.sxb, ?_, ?_, ?_, ?_, ?_⟩
  · exact ((h.own.sets (S' := fun k => Sr k ∨ (w2.heap.size ≤ k ∧ k < w7.heap.size)) (fun k hk => hk.elim .inl (fun h => .inr h.1))).grown gr (fun k hk => .inl (hrow k hk))).set (.inl h.sxb) _ _
  · exact (h.bt.grown gr (fun k hk e => by have := hge hk; omega)).other (by omega) _ _
  · exact (h.br.grown gr (fun k hk e => by have := hge hk; omega)).other (by omega) _ _
  · exact (h.bx.grown gr (fun k hk e => by have := hge hk; omega)).put (j := j) hj _ hx
  · exact (h.rest.grown gr (fun k hk => by have := h.old k hk; omega) (fun k hk hs => by have := hge hk; have := h.old k hs; omega)).set (fun hs => by have := h.old _ hs; omega) _ _
theorem Own.kept3 {α : Type} {R : Rep α} {base : Nat} {e : TypeId} {v : Value} {l : List α} (h : Own R w base (fun _ => False) e v l) {b : Nat} (hb : b < base) (a0 a1 a2 : Value) : Own R (((w.setCell ⟨b, 0, none⟩ a0).setCell ⟨b, 1, none⟩ a1).setCell ⟨b, 2, none⟩ a2) base (fun _ => False) e v l :=
  ((h.kept (grown_setB _ ⟨b, 0, none⟩ a0) (fun k hk => ⟨fun e => (by have := h.row_ge e; injection hk with hk; dsimp only at hk; omega), fun h => h⟩)).kept (grown_setB _ ⟨b, 1, none⟩ a1) (fun k hk => ⟨fun e => (by have := h.row_ge e; injection hk with hk; dsimp only at hk; omega), fun h => h⟩)).kept (grown_setB _ ⟨b, 2, none⟩ a2) (fun k hk => ⟨fun e => (by have := h.row_ge e; injection hk with hk; dsimp only at hk; omega), fun h => h⟩)
theorem Own.slB {α : Type} {R : Rep α} {base B : Nat} {e : TypeId} {A : Option Addr} {m c : Nat} {l : List α} (h : Own R w base (fun _ => False) e (.slice A m c) l) (hB : B ≤ base) : IsSl R w (fun k => B ≤ k ∧ k < w.heap.size) A m l ∧ m ≤ c ∧ c ≤ maxLen := by
  obtain ⟨A', c', hv, h1, h2, h3⟩ := h.isSlR
  injection hv with e1 e2 e3
  subst e1 e2 e3
  exact ⟨h3.weak (fun k hk => ⟨Nat.le_trans hB hk.1, hk.2⟩), h1, h2⟩
theorem ops_len (y : Mx) (lsn : Int) (l : List Chg) : (y.ops lsn l).length ≤ l.length := by
  unfold Mx.ops
  rw [List.length_map]
  exact List.length_filter_le _ _
end
/-- What a call that gives an item leaves. -/
def ItmPost (w : World) (S : Nat → Prop) (gm g : Nat) (it : Itm) (z : Mx) (e : Ending) (w' : World) : Prop :=
  ∃ A n c A2 n2 c2, e = .returned (.agg #[.int .i64 it.lsn, .slice A n c, .slice A2 n2 c2]) ∧ IsSl oprRep w' (fun k => w.heap.size ≤ k ∧ k < w'.heap.size) A n it.ops ∧ IsSl noteRep w' (fun k => w.heap.size ≤ k ∧ k < w'.heap.size) A2 n2 it.notes ∧ MuxOwn w' S gm g z ∧ Rest S w w'
end Go.Proofs.Ythhpddiicnjmmaa
