/- Events of the laws: copies and comparisons. No condition but those stated. -/
import Derived.Test.YtjmfkenhnfdbjaaDoorQyN
namespace Go.Proofs.YtjmfkenhnfdbjaaDoor
set_option linter.unusedVariables false
set_option linter.unusedSimpArgs false
open Go.RowKit Go.Sort
def szE (left : Int) (n : Nat) : Int := if left - n < 0 then -1 else left - n
theorem szE_neg {left : Int} {n : Nat} (h : szE left n < 0) : szE left n = -1 := by
  unfold szE at *; split at h
  · rename_i h1; rw [if_pos h1]
  · omega
theorem szE_small {left : Int} {n : Nat} (h : 0 ≤ szE left n) : (n : Int) ≤ left ∧ szE left n = left - n := by
  unfold szE at *; split at h
  · omega
  · rename_i h1; rw [if_neg h1]; omega
theorem C_szEventS (R : Rc) (sv : Value) (left : Int) (w : World) (h : EvS w sv R) (h0 : 0 ≤ left) (h1 : left ≤ 1048576) :
    Calls Tryd.prog 32 #[sv, .int .i64 left] w fun e w' => e = .returned (.int .i64 (szE left R.n)) ∧ w = w' := by
  obtain ⟨A, cap, rfl, hr, hc, hm⟩ := h
  clear hr
  obtain ⟨n, hn⟩ : ∃ n, R.n = n := ⟨_, rfl⟩
  rw [hn] at hc ⊢
  clear hn
  by_cases g1 : left - n < 0
  · go_enter Tryd.func32, Tryd.ntmps32
    go_wp2
    go_ret
    exact ⟨ret_int (by unfold szE; rw [if_pos (by omega)]), rfl⟩
  · go_enter Tryd.func32, Tryd.ntmps32
    go_wp2
    go_ret
    exact ⟨ret_int (by unfold szE; rw [if_neg (by omega)]), rfl⟩
theorem C_szRecord (R : Rc) (sv : Value) (left : Int) (w : World) (h : EvS w sv R) (h0 : 0 ≤ left) (h1 : left ≤ 1048576) :
    Calls Tryd.prog 10 #[.agg #[.int .i64 (R).id, .int .i64 (R).ser, .int .i64 (R).made, sv], .int .i64 left] w fun e w' => e = .returned (.int .i64 (szE left R.n)) ∧ Below w.heap.size w w' := by
  have HC := Lib.hid (fun w' (hb : Below w.heap.size w w') => C_szEventS R sv left w' (h.below hb) h0 h1)
  obtain ⟨n, hn⟩ : ∃ n, R.n = n := ⟨_, rfl⟩
  rw [hn] at HC ⊢
  clear hn h
  by_cases g1 : szE left n < 0
  · have g2 := szE_neg g1
    rw [g2] at HC ⊢
    go_enter Tryd.func10, Tryd.ntmps10
    go_wp2_with fail
    refine (HC.out _ (by (repeat (first | with_reducible exact Below.refl _ _ | with_reducible exact below_regrown _ _ _ | with_reducible refine bel_step0 (by assumption) ?_ | with_reducible refine bel_alloc0 ?_ _ | with_reducible refine bel_regrown0 ?_ _ _ | with_reducible refine bel_regrown ?_ (by first | omega | (simp; done) | (simp; omega)) _ _ | with_reducible refine below_drewN ?_ _ | with_reducible refine Below.drew ?_ | with_reducible refine Below.alloc ?_ (by first | omega | (simp; done) | (simp; omega)) _ | with_reducible refine Below.setCell ?_ (by first | omega | (simp; done) | (simp; omega)) _ | with_reducible refine bel_step (by assumption) (by first | omega | (simp; done) | (simp; omega)) ?_ | with_reducible refine bel_grown (by assumption) (by first | omega | (simp; done) | (simp; omega)) (by first | omega | (simp; done) | (simp; omega)) ?_)))).mono ?_; rintro e w1 ⟨rfl, rfl⟩
    go_wp2
    go_ret
    exact ⟨rfl, by (repeat (first | with_reducible exact Below.refl _ _ | with_reducible exact below_regrown _ _ _ | with_reducible refine bel_step0 (by assumption) ?_ | with_reducible refine bel_alloc0 ?_ _ | with_reducible refine bel_regrown0 ?_ _ _ | with_reducible refine bel_regrown ?_ (by first | omega | (simp; done) | (simp; omega)) _ _ | with_reducible refine below_drewN ?_ _ | with_reducible refine Below.drew ?_ | with_reducible refine Below.alloc ?_ (by first | omega | (simp; done) | (simp; omega)) _ | with_reducible refine Below.setCell ?_ (by first | omega | (simp; done) | (simp; omega)) _ | with_reducible refine bel_step (by assumption) (by first | omega | (simp; done) | (simp; omega)) ?_ | with_reducible refine bel_grown (by assumption) (by first | omega | (simp; done) | (simp; omega)) (by first | omega | (simp; done) | (simp; omega)) ?_))⟩
  · obtain ⟨z, hz⟩ : ∃ z, szE left n = z := ⟨_, rfl⟩
    rw [hz] at HC g1 ⊢
    go_enter Tryd.func10, Tryd.ntmps10
    go_wp2_with fail
    refine (HC.out _ (by (repeat (first | with_reducible exact Below.refl _ _ | with_reducible exact below_regrown _ _ _ | with_reducible refine bel_step0 (by assumption) ?_ | with_reducible refine bel_alloc0 ?_ _ | with_reducible refine bel_regrown0 ?_ _ _ | with_reducible refine bel_regrown ?_ (by first | omega | (simp; done) | (simp; omega)) _ _ | with_reducible refine below_drewN ?_ _ | with_reducible refine Below.drew ?_ | with_reducible refine Below.alloc ?_ (by first | omega | (simp; done) | (simp; omega)) _ | with_reducible refine Below.setCell ?_ (by first | omega | (simp; done) | (simp; omega)) _ | with_reducible refine bel_step (by assumption) (by first | omega | (simp; done) | (simp; omega)) ?_ | with_reducible refine bel_grown (by assumption) (by first | omega | (simp; done) | (simp; omega)) (by first | omega | (simp; done) | (simp; omega)) ?_)))).mono ?_; rintro e w1 ⟨rfl, rfl⟩
    go_wp2
    go_ret
    exact ⟨rfl, by (repeat (first | with_reducible exact Below.refl _ _ | with_reducible exact below_regrown _ _ _ | with_reducible refine bel_step0 (by assumption) ?_ | with_reducible refine bel_alloc0 ?_ _ | with_reducible refine bel_regrown0 ?_ _ _ | with_reducible refine bel_regrown ?_ (by first | omega | (simp; done) | (simp; omega)) _ _ | with_reducible refine below_drewN ?_ _ | with_reducible refine Below.drew ?_ | with_reducible refine Below.alloc ?_ (by first | omega | (simp; done) | (simp; omega)) _ | with_reducible refine Below.setCell ?_ (by first | omega | (simp; done) | (simp; omega)) _ | with_reducible refine bel_step (by assumption) (by first | omega | (simp; done) | (simp; omega)) ?_ | with_reducible refine bel_grown (by assumption) (by first | omega | (simp; done) | (simp; omega)) (by first | omega | (simp; done) | (simp; omega)) ?_))⟩
theorem C_toEvent (k d : Int) (w : World) :
    Calls Tryd.prog 59 #[.agg #[.int .i64 k, .int .i64 d]] w fun e w' => e = .returned (.agg #[.int .i64 k, .int .i64 d]) ∧ Below w.heap.size w w' := by
  go_enter Tryd.func59, Tryd.ntmps59
  go_wp2
  (go_light; refine bodyPost_ret (by simp (maxDischargeDepth := 3) [results, Tryd.results59, go_sem, *]; try rfl) rfl ?_)
  refine ⟨rfl, ?_⟩
  (repeat (first | with_reducible exact Below.refl _ _ | with_reducible exact below_regrown _ _ _ | with_reducible refine bel_step0 (by assumption) ?_ | with_reducible refine bel_alloc0 ?_ _ | with_reducible refine bel_regrown0 ?_ _ _ | with_reducible refine bel_regrown ?_ (by first | omega | (simp; done) | (simp; omega)) _ _ | with_reducible refine below_drewN ?_ _ | with_reducible refine Below.drew ?_ | with_reducible refine Below.alloc ?_ (by first | omega | (simp; done) | (simp; omega)) _ | with_reducible refine Below.setCell ?_ (by first | omega | (simp; done) | (simp; omega)) _ | with_reducible refine bel_step (by assumption) (by first | omega | (simp; done) | (simp; omega)) ?_ | with_reducible refine bel_grown (by assumption) (by first | omega | (simp; done) | (simp; omega)) (by first | omega | (simp; done) | (simp; omega)) ?_))
theorem C_eqEvent (k d : Int) (w : World) :
    Calls Tryd.prog 69 #[.agg #[.int .i64 k, .int .i64 d], .agg #[.int .i64 k, .int .i64 d]] w fun e w' => e = .returned (.bool true) ∧ Below w.heap.size w w' := by
  go_enter Tryd.func69, Tryd.ntmps69
  go_wp2
  all_goals (first | go_ret | go_ret2 | go_ret3)
  all_goals exact ⟨rfl, by (repeat (first | with_reducible exact Below.refl _ _ | with_reducible exact below_regrown _ _ _ | with_reducible refine bel_step0 (by assumption) ?_ | with_reducible refine bel_alloc0 ?_ _ | with_reducible refine bel_regrown0 ?_ _ _ | with_reducible refine bel_regrown ?_ (by first | omega | (simp; done) | (simp; omega)) _ _ | with_reducible refine below_drewN ?_ _ | with_reducible refine Below.drew ?_ | with_reducible refine Below.alloc ?_ (by first | omega | (simp; done) | (simp; omega)) _ | with_reducible refine Below.setCell ?_ (by first | omega | (simp; done) | (simp; omega)) _ | with_reducible refine bel_step (by assumption) (by first | omega | (simp; done) | (simp; omega)) ?_ | with_reducible refine bel_grown (by assumption) (by first | omega | (simp; done) | (simp; omega)) (by first | omega | (simp; done) | (simp; omega)) ?_))⟩
/-- The two cells of an event. -/
def cE (R : Rc) (j m : Nat) : Value := if m = 0 then .int .i64 (R.k j) else .int .i64 (R.d j)
/-- A row of events of its own. -/
def FE (lo hi : Nat) (w : World) (v : Value) (R : Rc) : Prop :=
  ∃ g, v = .slice (some ⟨g, 0, none⟩) R.n R.n ∧ lo ≤ g ∧ g < hi ∧ R.n ≤ 1048576 ∧ w.rowIs g 90 (R.n * 2) (fun i => cE R (i / 2) (i % 2))
theorem row2_at {w : World} {g : Nat} {R : Rc} (h : w.rowIs g 90 (R.n * 2) (fun i => cE R (i / 2) (i % 2))) {j : Nat} (hj : j < R.n) :
    w.cell? ⟨g, 0 + j * 2, none⟩ = some (.int .i64 (R.k j)) ∧ w.cell? ⟨g, 0 + j * 2 + 1, none⟩ = some (.int .i64 (R.d j)) := by
  have e0 := h.cell (i := j * 2) (by omega)
  have e1 := h.cell (i := j * 2 + 1) (by omega)
  rw [show (j * 2) / 2 = j by omega, show (j * 2) % 2 = 0 by omega] at e0
  rw [show (j * 2 + 1) / 2 = j by omega, show (j * 2 + 1) % 2 = 1 by omega] at e1
  rw [Nat.zero_add]
  exact ⟨e0, e1⟩
theorem FE.evs {lo hi : Nat} {w : World} {v : Value} {R : Rc} (h : FE lo hi w v R) : EvS w v R := by
  obtain ⟨g, rfl, _, _, hn, hr⟩ := h
  exact ⟨_, _, rfl, fun _ => ⟨g, 0, rfl, hr.lt, fun j hj => row2_at hr hj⟩, Nat.le_refl _, by omega⟩
theorem FE.below {lo hi : Nat} {w w' : World} {v : Value} {R : Rc} (hb : Below w.heap.size w w') (h : FE lo hi w v R) : FE lo hi w' v R := by
  obtain ⟨g, e, h1, h2, hn, hr⟩ := h
  exact ⟨g, e, h1, h2, hn, hr.of_block (hb.block g hr.lt)⟩
theorem FE.mono {lo hi lo' hi' : Nat} {w : World} {v : Value} {R : Rc} (h : FE lo hi w v R) (h1 : lo' ≤ lo) (h2 : hi ≤ hi') : FE lo' hi' w v R := by
  obtain ⟨g, e, h3, h4, h5⟩ := h
  exact ⟨g, e, by omega, by omega, h5⟩
theorem FE.of_row {lo hi : Nat} {w : World} {g n : Nat} {R : Rc} (e : R.n = n) (hn : n ≤ 1048576) (h : w.rowIs g 90 (n * 2) (fun i => cE R (i / 2) (i % 2))) (h1 : lo ≤ g) (h2 : g < hi) : FE lo hi w (.slice (some ⟨g, 0, none⟩) n n) R := by
  subst e
  exact ⟨g, rfl, h1, h2, hn, h⟩
theorem info_ev : (Tryd.prog.info? 90).map (fun i => (i.zero, i.size, i.bytes)) = some (some (.agg #[.int .i64 0, .int .i64 0]), 2, 16) := by kernel_rfl
theorem make_rowK {P : Program} (t e : TypeId) (z : Value) (size bytes : Nat) (ht : P.underlying t = some (.slice e)) (hinfo : (P.info? e).map (fun i => (i.zero, i.size, i.bytes)) = some (some z, size, bytes))
    (n : Nat) (hbytes : bytes * n ≤ 281474976710656) (h63 : n ≤ 9223372036854775807) (w : World) :
    (Instr.makeSlice t (.int .i64 (n : Int)) (.int .i64 (n : Int))).run P w = .ok (.slice (some ⟨w.heap.size, 0, none⟩) n n) (w.alloc (.cells (madeCells z.cells (n * size)) e)) := by
  obtain ⟨i, hi, hzz⟩ := Option.map_eq_some_iff.1 hinfo
  simp only [Prod.mk.injEq] at hzz
  obtain ⟨hz, hs, hb⟩ := hzz
  have hb' : (i.bytes : Int) * (n : Int) ≤ 281474976710656 := by
    have h : ((i.bytes * n : Nat) : Int) ≤ 281474976710656 := by rw [hb]; omega
    rwa [Int.natCast_mul] at h
  have hr := run_make (P := P) w t e i z ht hi hz .i64 .i64 n n (by omega) (Int.le_refl _) hb' (by omega)
  simp only [Int.toNat_natCast, hs] at hr
  exact hr
theorem row2_made (w : World) (t : TypeId) (n : Nat) : (w.alloc (.cells (madeCells #[.int .i64 0, .int .i64 0] (n * 2)) t)).rowIs w.heap.size t (n * 2) (fun _ => .int .i64 0) := by
  have h := World.rowIs_alloc w (madeCells #[.int .i64 0, .int .i64 0] (n * 2)) t (fun _ => .int .i64 0) (fun i hi => by
    rw [size_madeCells] at hi
    have hm : i % 2 < 2 := Nat.mod_lt _ (by omega)
    simp only [madeCells, Array.getElem?_map, Array.getElem?_range, hi, if_true, Option.map_some]
    congr 1
    show (#[Value.int .i64 0, Value.int .i64 0] : Array Value)[i % 2]! = .int .i64 0
    generalize i % 2 = m at *
    match m, hm with
    | 0, _ => rfl
    | 1, _ => rfl)
  rwa [size_madeCells] at h
theorem row2_step (R : Rc) (k i : Nat) :
    (if i = k * 2 + 1 then Value.int .i64 (R.d k) else if i = k * 2 then .int .i64 (R.k k) else if i < k * 2 then cE R (i / 2) (i % 2) else .int .i64 0) =
    if i < (k + 1) * 2 then cE R (i / 2) (i % 2) else .int .i64 0 := by
  by_cases h1 : i = k * 2 + 1
  · subst h1
    rw [if_pos rfl, if_pos (by omega), show (k * 2 + 1) / 2 = k by omega, show (k * 2 + 1) % 2 = 1 by omega]; rfl
  rw [if_neg h1]
  by_cases h0 : i = k * 2
  · subst h0
    rw [if_pos rfl, if_pos (by omega), show (k * 2) / 2 = k by omega, show (k * 2) % 2 = 0 by omega]; rfl
  rw [if_neg h0]
  by_cases hl : i < k * 2
  · rw [if_pos hl, if_pos (by omega)]
  · rw [if_neg hl, if_neg (by omega)]
theorem EvS.at_ {w wr : World} {A : Option Addr} {n : Nat} {R : Rc} (hB : Below w.heap.size w wr) (h : 0 < n → ∃ b off, A = some ⟨b, off, none⟩ ∧ b < w.heap.size ∧ ∀ j, j < n → w.cell? ⟨b, off + j * 2, none⟩ = some (.int .i64 (R.k j)) ∧ w.cell? ⟨b, off + j * 2 + 1, none⟩ = some (.int .i64 (R.d j))) (h0 : 0 < n) :
    ∃ b off, A = some ⟨b, off, none⟩ ∧ b < wr.heap.size ∧ ∀ j, j < n → wr.cell? ⟨b, off + j * 2, none⟩ = some (.int .i64 (R.k j)) ∧ wr.cell? ⟨b, off + j * 2 + 1, none⟩ = some (.int .i64 (R.d j)) := by
  obtain ⟨b, off, e, hl, hc⟩ := h h0
  exact ⟨b, off, e, Nat.lt_of_lt_of_le hl hB.size, fun j hj => ⟨(hB.cell (p := ⟨b, off + j * 2, none⟩) hl).trans (hc j hj).1, (hB.cell (p := ⟨b, off + j * 2 + 1, none⟩) hl).trans (hc j hj).2⟩⟩
set_option maxHeartbeats 1000000 in
theorem C_toEventS (R : Rc) (sv : Value) (w : World) (h : EvS w sv R) (hn : R.n ≤ 1048576) :
    Calls Tryd.prog 35 #[sv] w fun e w' => ∃ v', e = .returned v' ∧ FE w.heap.size w'.heap.size w' v' R ∧ Below w.heap.size w w' := by
  obtain ⟨A, cap, rfl, hr, hc, hm⟩ := h
  have HR := Lib.hid hr; clear hr
  obtain ⟨n, hnn⟩ : ∃ n, R.n = n := ⟨_, rfl⟩
  have HN := Lib.hid hnn
  rw [hnn] at HR hc hn ⊢
  clear hnn
  have hmk := make_rowK (P := Tryd.prog) 31 90 _ 2 16 Tryd.underlying31 info_ev n (by omega) (by omega)
  go_enter Tryd.func35, Tryd.ntmps35
  go_wp2
  go_loopw [4] (fun i wr => ∃ k : Nat, k ≤ n ∧ i = .int .i64 k ∧ wr.rowIs w.heap.size 90 (n * 2) (fun i => if i < k * 2 then cE R (i / 2) (i % 2) else .int .i64 0) ∧ Below w.heap.size w wr) (fun i _ => n - (intOf i).toNat)
  case atStart => exact ⟨0, Nat.zero_le _, rfl, (row2_made w _ n).congr (fun i hi => by simp), by (repeat (first | with_reducible exact Below.refl _ _ | with_reducible exact below_regrown _ _ _ | with_reducible refine bel_step0 (by assumption) ?_ | with_reducible refine bel_alloc0 ?_ _ | with_reducible refine bel_regrown0 ?_ _ _ | with_reducible refine bel_regrown ?_ (by first | omega | (simp; done) | (simp; omega)) _ _ | with_reducible refine below_drewN ?_ _ | with_reducible refine Below.drew ?_ | with_reducible refine Below.alloc ?_ (by first | omega | (simp; done) | (simp; omega)) _ | with_reducible refine Below.setCell ?_ (by first | omega | (simp; done) | (simp; omega)) _ | with_reducible refine bel_step (by assumption) (by first | omega | (simp; done) | (simp; omega)) ?_ | with_reducible refine bel_grown (by assumption) (by first | omega | (simp; done) | (simp; omega)) (by first | omega | (simp; done) | (simp; omega)) ?_))⟩
  case round =>
    obtain ⟨k, hk, rfl, ha, hB⟩ := hrel; have hzB := hB.size
    have HA := Lib.hid ha
    by_cases hlt : k < n
    · obtain ⟨b, off, rfl, hb, hcell⟩ := EvS.at_ hB HR.out (by omega)
      obtain ⟨c0, c1⟩ := hcell k hlt
      have hgl := ha.lt
      have o0 := ha.cell (i := k * 2) (by omega)
      have o1 := ha.cell (i := k * 2 + 1) (by omega)
      have f0 := ha.frozen (k * 2)
      have f1 := ha.frozen (k * 2 + 1)
      clear hcell ha
      go_wp2_with (go_at_call 59; refine (C_toEvent _ _ _).mono ?_; rintro e w' ⟨rfl, hb'⟩; obtain ⟨hc', hf'⟩ := bcell hb')
      go_roundw
      case rel =>
        have hbs := hb'.size
        refine ⟨k + 1, by omega, by go_num, ?_, by (repeat (first | with_reducible exact Below.refl _ _ | with_reducible exact below_regrown _ _ _ | with_reducible refine bel_step0 (by assumption) ?_ | with_reducible refine bel_alloc0 ?_ _ | with_reducible refine bel_regrown0 ?_ _ _ | with_reducible refine bel_regrown ?_ (by first | omega | (simp; done) | (simp; omega)) _ _ | with_reducible refine below_drewN ?_ _ | with_reducible refine Below.drew ?_ | with_reducible refine Below.alloc ?_ (by first | omega | (simp; done) | (simp; omega)) _ | with_reducible refine Below.setCell ?_ (by first | omega | (simp; done) | (simp; omega)) _ | with_reducible refine bel_step (by assumption) (by first | omega | (simp; done) | (simp; omega)) ?_ | with_reducible refine bel_grown (by assumption) (by first | omega | (simp; done) | (simp; omega)) (by first | omega | (simp; done) | (simp; omega)) ?_))⟩
        have h3 := (((HA.out.of_block (hb'.block _ hgl)).set (k * 2) (.int .i64 (R.k k))).set (k * 2 + 1) (.int .i64 (R.d k)))
        exact h3.congr fun i hi => row2_step R k i
      case measure => simp [intOf]; omega
    · clear ha
      go_wp2
      go_ret
      obtain rfl : k = n := by omega
      have hrow := HA.out.congr (g := fun i => cE R (i / 2) (i % 2)) (fun i hi => by rw [if_pos hi])
      exact ⟨_, rfl, FE.of_row HN.out hn hrow (Nat.le_refl _) hrow.lt, hB⟩
set_option maxHeartbeats 1000000 in
theorem C_eqEventS (R : Rc) (v v' : Value) (w : World) (h : EvS w v R) (h' : EvS w v' R) :
    Calls Tryd.prog 39 #[v, v'] w fun e w' => e = .returned (.bool true) ∧ Below w.heap.size w w' := by
  obtain ⟨A, cap, rfl, hr, hc, hm⟩ := h
  obtain ⟨A', cap', rfl, hr', hc', hm'⟩ := h'
  have HR := Lib.hid hr; clear hr
  have HR' := Lib.hid hr'; clear hr'
  obtain ⟨n, hnn⟩ : ∃ n, R.n = n := ⟨_, rfl⟩
  rw [hnn] at HR HR' hc hc' ⊢
  clear hnn
  go_enter Tryd.func39, Tryd.ntmps39
  go_wp2
  go_loopw [5] (fun i wr => ∃ k : Nat, k ≤ n ∧ i = .int .i64 k ∧ Below w.heap.size w wr) (fun i _ => n - (intOf i).toNat)
  case atStart => exact ⟨0, Nat.zero_le _, rfl, Below.refl _ _⟩
  case round =>
    obtain ⟨k, hk, rfl, hB⟩ := hrel; have hzB := hB.size
    by_cases hlt : k < n
    · obtain ⟨b, off, rfl, hb, hcell⟩ := EvS.at_ hB HR.out (by omega)
      obtain ⟨b', off', rfl, hb', hcell'⟩ := EvS.at_ hB HR'.out (by omega)
      obtain ⟨c0, c1⟩ := hcell k hlt
      obtain ⟨d0, d1⟩ := hcell' k hlt
      have hk0 : (0 : Int) ≤ (k : Int) := by omega
      have hk1 : (k : Int) < (n : Int) := by omega
      have g0 := cell_regrown c0; have g1 := cell_regrown c1
      have i0 := cell_regrown d0; have i1 := cell_regrown d1
      have HE : ∀ d os, Calls Tryd.prog 69 #[.agg #[.int .i64 (R.k k), .int .i64 (R.d k)], .agg #[.int .i64 (R.k k), .int .i64 (R.d k)]] (grow (redrawn wr d) os) fun e w'' => e = .returned (.bool true) ∧ ∃ p : Regrown, w'' = grow (redrawn wr p.d) p.os :=
        fun d os => Calls.regrown_of (C_eqEvent _ _ _)
      clear hcell hcell' c0 c1 d0 d1
      go_wp2
      (refine wp_region_quiet_below (by kernel_rfl) (by kernel_rfl) ?_; (repeat (go_big_quiet_step (exact HE _ _))); refine wpQuiet_nil ?_; intro _ hw'; obtain ⟨⟨dq, osq⟩, hw''⟩ := hw'; subst hw'')
      go_wp2
      go_roundw
      case rel => exact ⟨k + 1, by omega, by go_num, by (repeat (first | with_reducible exact Below.refl _ _ | with_reducible exact below_regrown _ _ _ | with_reducible refine bel_step0 (by assumption) ?_ | with_reducible refine bel_alloc0 ?_ _ | with_reducible refine bel_regrown0 ?_ _ _ | with_reducible refine bel_regrown ?_ (by first | omega | (simp; done) | (simp; omega)) _ _ | with_reducible refine below_drewN ?_ _ | with_reducible refine Below.drew ?_ | with_reducible refine Below.alloc ?_ (by first | omega | (simp; done) | (simp; omega)) _ | with_reducible refine Below.setCell ?_ (by first | omega | (simp; done) | (simp; omega)) _ | with_reducible refine bel_step (by assumption) (by first | omega | (simp; done) | (simp; omega)) ?_ | with_reducible refine bel_grown (by assumption) (by first | omega | (simp; done) | (simp; omega)) (by first | omega | (simp; done) | (simp; omega)) ?_))⟩
      case measure => simp [intOf]; omega
    · go_wp2
      go_ret
      exact ⟨rfl, hB⟩
end Go.Proofs.YtjmfkenhnfdbjaaDoor
