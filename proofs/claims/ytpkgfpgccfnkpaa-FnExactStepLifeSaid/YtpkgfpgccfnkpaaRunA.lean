/- Lists of steps. No condition but those stated. -/
import Derived.Test.YtpkgfpgccfnkpaaMem
import Derived.Test.YtpkgfpgccfnkpaaLifeI
import Derived.Lib.LazyBuf
namespace Go.Proofs.Ytpkgfpgccfnkpaa
set_option linter.unusedVariables false
set_option linter.unusedSimpArgs false
open Go.RowKit Go.Sort
/-- The value v is a slice of the n steps K, V. -/
def SS (w : World) (v : Value) (n : Nat) (K V : Nat → Int) : Prop :=
  ∃ A cap, v = .slice A n cap ∧ (0 < n → ∃ b off, A = some ⟨b, off, none⟩ ∧ b < w.heap.size ∧ ∀ j, j < n → w.cell? ⟨b, off + j * 2, none⟩ = some (.int .i64 (K j)) ∧ w.cell? ⟨b, off + j * 2 + 1, none⟩ = some (.int .i64 (V j))) ∧ n ≤ cap ∧ cap ≤ 9223372036854775807
theorem SS.at_ {w wr : World} {A : Option Addr} {n : Nat} {K V : Nat → Int} (hB : Below w.heap.size w wr)
    (h : 0 < n → ∃ b off, A = some ⟨b, off, none⟩ ∧ b < w.heap.size ∧ ∀ j, j < n → w.cell? ⟨b, off + j * 2, none⟩ = some (.int .i64 (K j)) ∧ w.cell? ⟨b, off + j * 2 + 1, none⟩ = some (.int .i64 (V j))) (h0 : 0 < n) :
    ∃ b off, A = some ⟨b, off, none⟩ ∧ b < wr.heap.size ∧ ∀ j, j < n → wr.cell? ⟨b, off + j * 2, none⟩ = some (.int .i64 (K j)) ∧ wr.cell? ⟨b, off + j * 2 + 1, none⟩ = some (.int .i64 (V j)) := by
  obtain ⟨b, off, ea, hl, hc⟩ := h h0
  exact ⟨b, off, ea, Nat.lt_of_lt_of_le hl hB.size, fun j hj => ⟨(hB.cell (p := ⟨b, off + j * 2, none⟩) hl).trans (hc j hj).1, (hB.cell (p := ⟨b, off + j * 2 + 1, none⟩) hl).trans (hc j hj).2⟩⟩
theorem SS.below {w w' : World} {v : Value} {n : Nat} {K V : Nat → Int} (hb : Below w.heap.size w w') (h : SS w v n K V) : SS w' v n K V :=
  let ⟨A, cap, e, hr, h2⟩ := h
  ⟨A, cap, e, SS.at_ hb hr, h2⟩
def szSs (left : Int) (n : Nat) : Int := if left - n < 0 then -1 else left - n
theorem szSs_small {left : Int} {n : Nat} (h : 0 ≤ szSs left n) : (n : Int) ≤ left := by
  unfold szSs at h; split at h <;> omega
theorem C_szLifeStepS (v : Value) (n : Nat) (K V : Nat → Int) (left : Int) (w : World) (h : SS w v n K V) (h0 : 0 ≤ left) (h1 : left ≤ 1048576) :
    Calls Try.prog 26 #[v, .int .i64 left] w fun e w' => e = .returned (.int .i64 (szSs left n)) ∧ w = w' := by
  obtain ⟨A, cap, rfl, hr, hc, hm⟩ := h
  clear hr
  by_cases hlt0 : left - n < 0
  · go_enter Try.func26, Try.ntmps26
    go_wp2
    go_ret
    exact ⟨ret_int (by unfold szSs; rw [if_pos hlt0]), rfl⟩
  · go_enter Try.func26, Try.ntmps26
    go_wp2
    go_ret
    exact ⟨ret_int (by unfold szSs; rw [if_neg (by omega)]), rfl⟩
def c2 (k v : Int) (m : Nat) : Value := if m = 0 then .int .i64 k else .int .i64 v
theorem info_step : (Try.prog.info? 41).map (fun i => (i.zero, i.size, i.bytes)) = some (some (.agg #[.int .i64 0, .int .i64 0]), 2, 16) := by kernel_rfl
theorem make_rowN {P : Program} (t e : TypeId) (z : Value) (size bytes : Nat) (ht : P.underlying t = some (.slice e)) (hinfo : (P.info? e).map (fun i => (i.zero, i.size, i.bytes)) = some (some z, size, bytes))
    (n : Nat) (hbytes : bytes * n ≤ 281474976710656) (h63 : n ≤ 9223372036854775807) (w : World) :
    (Instr.makeSlice t (.int .i64 (n : Int)) (.int .i64 (n : Int))).run P w = .ok (.slice (some ⟨w.heap.size, 0, none⟩) n n) (w.alloc (.cells (madeCells z.cells (n * size)) e)) := by
  obtain ⟨i, hi, hzz⟩ := Option.map_eq_some_iff.1 hinfo
  simp only [Prod.mk.injEq] at hzz
  obtain ⟨hz, hs, hb⟩ := hzz
  have hb' : (i.bytes : Int) * (n : Int) ≤ 281474976710656 := by
    have h : ((i.bytes * n : Nat) : Int) ≤ 281474976710656 := by rw [hb]; omega
    rwa [Int.natCast_mul] at h
  have hr := run_make (P := P) w t e i z ht hi hz .i64 .i64 n n (by omega) (Int.le_refl _) hb' (by omega)
  simp only [Int.toNat_natCast, hs] at hr
  exact hr
theorem row2_made (w : World) (t : TypeId) (n : Nat) : (w.alloc (.cells (madeCells #[.int .i64 0, .int .i64 0] (n * 2)) t)).rowIs w.heap.size t (n * 2) (fun i => c2 0 0 (i % 2)) := by
  have h := World.rowIs_alloc w (madeCells #[.int .i64 0, .int .i64 0] (n * 2)) t (fun i => c2 0 0 (i % 2)) (fun i hi => by
    rw [size_madeCells] at hi
    have hm : i % 2 < 2 := Nat.mod_lt _ (by omega)
    simp only [madeCells, Array.getElem?_map, Array.getElem?_range, hi, if_true, Option.map_some]
    congr 1
    show (#[Value.int .i64 0, Value.int .i64 0] : Array Value)[i % 2]! = c2 0 0 (i % 2)
    generalize i % 2 = m at *
    match m, hm with
    | 0, _ => rfl
    | 1, _ => rfl)
  rwa [size_madeCells] at h
theorem row2_step (K V : Nat → Int) (k i : Nat) :
    (if i = k * 2 + 1 then Value.int .i64 (V k) else if i = k * 2 then .int .i64 (K k) else if i < k * 2 then c2 (K (i / 2)) (V (i / 2)) (i % 2) else c2 0 0 (i % 2)) =
    if i < (k + 1) * 2 then c2 (K (i / 2)) (V (i / 2)) (i % 2) else c2 0 0 (i % 2) := by
  by_cases h1 : i = k * 2 + 1
  · subst h1
    rw [if_pos rfl, if_pos (by omega), show (k * 2 + 1) / 2 = k by omega, show (k * 2 + 1) % 2 = 1 by omega]; rfl
  rw [if_neg h1]
  by_cases h0 : i = k * 2
  · subst h0
    rw [if_pos rfl, if_pos (by omega), show (k * 2) / 2 = k by omega, show (k * 2) % 2 = 0 by omega]; rfl
  rw [if_neg h0]
  by_cases hl : i < k * 2
  · rw [if_pos hl, if_pos (by omega)]
  · rw [if_neg hl, if_neg (by omega)]
theorem C_toLifeStepS (v : Value) (n : Nat) (K V : Nat → Int) (w : World) (h : SS w v n K V) (hn : n ≤ 1048576) :
    Calls Try.prog 28 #[v] w fun e w' => ∃ v', e = .returned v' ∧ SS w' v' n K V ∧ Below w.heap.size w w' := by
  obtain ⟨A, cap, rfl, hr, hc, hm⟩ := h
  have HR := Lib.hid hr; clear hr
  have hmk := make_rowN (P := Try.prog) 48 41 _ 2 16 Try.underlying48 info_step n (by omega) (by omega)
  go_enter Try.func28, Try.ntmps28
  go_wp2
  go_loopw [4] (fun i wr => ∃ k : Nat, k ≤ n ∧ i = .int .i64 k ∧ wr.rowIs w.heap.size 41 (n * 2) (fun i => if i < k * 2 then c2 (K (i / 2)) (V (i / 2)) (i % 2) else c2 0 0 (i % 2)) ∧ Below w.heap.size w wr) (fun i _ => n - (intOf i).toNat)
  case atStart => exact ⟨0, Nat.zero_le _, rfl, (row2_made w _ n).congr (fun i hi => by simp), by (repeat (first | with_reducible exact Below.refl _ _ | with_reducible exact below_regrown _ _ _ | with_reducible refine bel_step0 (by assumption) ?_ | with_reducible refine bel_alloc0 ?_ _ | with_reducible refine bel_regrown0 ?_ _ _ | with_reducible refine bel_regrown ?_ (by first | omega | (simp; done) | (simp; omega)) _ _ | with_reducible refine below_drewN ?_ _ | with_reducible refine Below.drew ?_ | with_reducible refine Below.alloc ?_ (by first | omega | (simp; done) | (simp; omega)) _ | with_reducible refine Below.setCell ?_ (by first | omega | (simp; done) | (simp; omega)) _ | with_reducible refine bel_step (by assumption) (by first | omega | (simp; done) | (simp; omega)) ?_ | with_reducible refine bel_grown (by assumption) (by first | omega | (simp; done) | (simp; omega)) (by first | omega | (simp; done) | (simp; omega)) ?_))⟩
  case round =>
    obtain ⟨k, hk, rfl, ha, hB⟩ := hrel; have hzB := hB.size
    have HA := Lib.hid ha
    by_cases hlt : k < n
    · obtain ⟨b, off, rfl, hb, hcell⟩ := SS.at_ hB HR.out (by omega)
      obtain ⟨hck0, hck1⟩ := hcell k hlt
      have hgl := ha.lt
      have ho0 := ha.cell (i := k * 2) (by omega)
      have ho1 := ha.cell (i := k * 2 + 1) (by omega)
      have hfr0 := ha.frozen (k * 2)
      have hfr1 := ha.frozen (k * 2 + 1)
      clear hcell ha
      go_wp2_with (go_at_call 24; refine (C_toLifeStep _ _ _).mono ?_; rintro e w' ⟨rfl, hb'⟩; obtain ⟨hc', hf'⟩ := bcell hb')
      go_roundw
      case rel =>
        have hbs := hb'.size
        refine ⟨k + 1, by omega, by go_num, ?_, by (repeat (first | with_reducible exact Below.refl _ _ | with_reducible exact below_regrown _ _ _ | with_reducible refine bel_step0 (by assumption) ?_ | with_reducible refine bel_alloc0 ?_ _ | with_reducible refine bel_regrown0 ?_ _ _ | with_reducible refine bel_regrown ?_ (by first | omega | (simp; done) | (simp; omega)) _ _ | with_reducible refine below_drewN ?_ _ | with_reducible refine Below.drew ?_ | with_reducible refine Below.alloc ?_ (by first | omega | (simp; done) | (simp; omega)) _ | with_reducible refine Below.setCell ?_ (by first | omega | (simp; done) | (simp; omega)) _ | with_reducible refine bel_step (by assumption) (by first | omega | (simp; done) | (simp; omega)) ?_ | with_reducible refine bel_grown (by assumption) (by first | omega | (simp; done) | (simp; omega)) (by first | omega | (simp; done) | (simp; omega)) ?_))⟩
        have h3 := ((HA.out.of_block (hb'.block _ hgl)).set (k * 2) (.int .i64 (K k))).set (k * 2 + 1) (.int .i64 (V k))
        exact h3.congr fun i hi => row2_step K V k i
      case measure => simp [intOf]; omega
    · clear ha
      go_wp2
      go_ret
      obtain rfl : k = n := by omega
      refine ⟨_, rfl, ⟨_, _, rfl, fun h0 => ⟨w.heap.size, 0, rfl, HA.out.lt, fun j hj => ⟨?_, ?_⟩⟩, Nat.le_refl _, by omega⟩, hB⟩
      · have := HA.out.cell (i := j * 2) (by omega)
        rw [if_pos (by omega), Nat.mul_mod_left, Nat.mul_div_cancel _ (by omega)] at this
        simpa [c2] using this
      · have := HA.out.cell (i := j * 2 + 1) (by omega)
        rw [if_pos (by omega), show (j * 2 + 1) / 2 = j by omega, show (j * 2 + 1) % 2 = 1 by omega] at this
        simpa [c2] using this
theorem C_eqLifeStep (k v : Int) (w : World) :
    Calls Try.prog 46 #[.agg #[.int .i64 k, .int .i64 v], .agg #[.int .i64 k, .int .i64 v]] w fun e w' => e = .returned (.bool true) ∧ Below w.heap.size w w' := by
  go_enter Try.func46, Try.ntmps46
  go_wp2
  first | go_ret | go_ret2 | go_ret3
  exact ⟨rfl, by (repeat (first | with_reducible exact Below.refl _ _ | with_reducible exact below_regrown _ _ _ | with_reducible refine bel_step0 (by assumption) ?_ | with_reducible refine bel_alloc0 ?_ _ | with_reducible refine bel_regrown0 ?_ _ _ | with_reducible refine bel_regrown ?_ (by first | omega | (simp; done) | (simp; omega)) _ _ | with_reducible refine below_drewN ?_ _ | with_reducible refine Below.drew ?_ | with_reducible refine Below.alloc ?_ (by first | omega | (simp; done) | (simp; omega)) _ | with_reducible refine Below.setCell ?_ (by first | omega | (simp; done) | (simp; omega)) _ | with_reducible refine bel_step (by assumption) (by first | omega | (simp; done) | (simp; omega)) ?_ | with_reducible refine bel_grown (by assumption) (by first | omega | (simp; done) | (simp; omega)) (by first | omega | (simp; done) | (simp; omega)) ?_))⟩
theorem C_eqLifeStepS (v v' : Value) (n : Nat) (K V : Nat → Int) (w : World) (h : SS w v n K V) (h' : SS w v' n K V) :
    Calls Try.prog 30 #[v, v'] w fun e w' => e = .returned (.bool true) ∧ Below w.heap.size w w' := by
  obtain ⟨A, cap, rfl, hr, hc, hm⟩ := h
  obtain ⟨A', cap', rfl, hr', hc', hm'⟩ := h'
  have HR := Lib.hid hr; clear hr
  have HR' := Lib.hid hr'; clear hr'
  go_enter Try.func30, Try.ntmps30
  go_wp2
  go_loopw [5] (fun i wr => ∃ k : Nat, k ≤ n ∧ i = .int .i64 k ∧ Below w.heap.size w wr) (fun i _ => n - (intOf i).toNat)
  case atStart => exact ⟨0, Nat.zero_le _, rfl, Below.refl _ _⟩
  case round =>
    obtain ⟨k, hk, rfl, hB⟩ := hrel; have hzB := hB.size
    by_cases hlt : k < n
    · obtain ⟨b, off, rfl, hb, hcell⟩ := SS.at_ hB HR.out (by omega)
      obtain ⟨b', off', rfl, hb', hcell'⟩ := SS.at_ hB HR'.out (by omega)
      obtain ⟨hck0, hck1⟩ := hcell k hlt
      obtain ⟨hck0', hck1'⟩ := hcell' k hlt
      have hk0 : (0 : Int) ≤ (k : Int) := by omega
      have hk1 : (k : Int) < (n : Int) := by omega
      have hg0 := cell_regrown hck0; have hg1 := cell_regrown hck1
      have hg0' := cell_regrown hck0'; have hg1' := cell_regrown hck1'
      have HE : ∀ d os, Calls Try.prog 46 #[.agg #[.int .i64 (K k), .int .i64 (V k)], .agg #[.int .i64 (K k), .int .i64 (V k)]] (grow (redrawn wr d) os) fun e w'' => e = .returned (.bool true) ∧ ∃ p : Regrown, w'' = grow (redrawn wr p.d) p.os :=
        fun d os => Calls.regrown_of (C_eqLifeStep _ _ _)
      clear hcell hcell'
      go_wp2
      (refine wp_region_quiet_below (by kernel_rfl) (by kernel_rfl) ?_; (repeat (go_big_quiet_step (exact HE _ _))); refine wpQuiet_nil ?_; intro _ hw'; obtain ⟨⟨dq, osq⟩, hw''⟩ := hw'; subst hw'')
      go_wp2
      go_roundw
      case rel => exact ⟨k + 1, by omega, by go_num, by (repeat (first | with_reducible exact Below.refl _ _ | with_reducible exact below_regrown _ _ _ | with_reducible refine bel_step0 (by assumption) ?_ | with_reducible refine bel_alloc0 ?_ _ | with_reducible refine bel_regrown0 ?_ _ _ | with_reducible refine bel_regrown ?_ (by first | omega | (simp; done) | (simp; omega)) _ _ | with_reducible refine below_drewN ?_ _ | with_reducible refine Below.drew ?_ | with_reducible refine Below.alloc ?_ (by first | omega | (simp; done) | (simp; omega)) _ | with_reducible refine Below.setCell ?_ (by first | omega | (simp; done) | (simp; omega)) _ | with_reducible refine bel_step (by assumption) (by first | omega | (simp; done) | (simp; omega)) ?_ | with_reducible refine bel_grown (by assumption) (by first | omega | (simp; done) | (simp; omega)) (by first | omega | (simp; done) | (simp; omega)) ?_))⟩
      case measure => simp [intOf]; omega
    · go_wp2
      go_ret
      exact ⟨rfl, hB⟩
end Go.Proofs.Ytpkgfpgccfnkpaa
