/- What the functions on slices of numbers compute, one contract for each. No condition but those stated. -/
import Derived.Test.YtcdffikambbleaaIntsA
namespace Go.Proofs.Ytcdffikambbleaa
set_option linter.unusedVariables false
open Go.RowKit Go.Sort


def eqI (n m : Nat) (f g : Nat → Int) : Bool := decide (n = m) && allB n fun j => f j == g j
theorem C_eqIntS (v v' : Value) (n m : Nat) (f g : Nat → Int) (w : World) (h : SI w v n f) (h' : SI w v' m g) :
    Calls Try.prog 37 #[v, v'] w fun e w' => e = .returned (.bool (eqI n m f g)) ∧ Below w.heap.size w w' := by
  obtain ⟨A, cap, rfl, hr, hc, hm⟩ := h
  obtain ⟨A', cap', rfl, hr', hc', hm'⟩ := h'
  have HR := Lib.hid hr; clear hr
  have HR' := Lib.hid hr'; clear hr'
  by_cases hnm : n = m
  · subst hnm
    go_enter Try.func37, Try.ntmps37
    go_wp2
    go_loopw [5] (fun i wr => ∃ k : Nat, k ≤ n ∧ i = .int .i64 k ∧ allB k (fun j => f j == g j) = true ∧ Below w.heap.size w wr) (fun i _ => n - (intOf i).toNat)
    case atStart => exact ⟨0, Nat.zero_le _, rfl, rfl, Below.refl _ _⟩
    case round =>
      obtain ⟨k, hk, rfl, ha, hB⟩ := hrel
      have HA := Lib.hid ha; clear ha
      by_cases hlt : k < n
      · obtain ⟨b, off, rfl, hb, hcell⟩ := (HR.out.below hB) (by omega)
        obtain ⟨b', off', rfl, hb', hcell'⟩ := (HR'.out.below hB) (by omega)
        have hck := hcell k hlt
        have hck' := hcell' k hlt
        have hk0 : (0 : Int) ≤ (k : Int) := by omega
        have hk1 : (k : Int) < (n : Int) := by omega
        clear hcell hcell'
        go_wp2
        go_quiet (fail)
        go_wp2
        all_goals first
          | (go_ret; exact ⟨ret_bool (by unfold eqI; rw [allB_of_not hlt ((by (first | (simp [*]; done) | (go_light; simp_all; done) | (go_light; simp_all; omega))))]; simp), by (repeat (first | with_reducible exact Below.refl _ _ | with_reducible exact below_regrown _ _ _ | with_reducible refine bel_step0 (by assumption) ?_ | with_reducible refine bel_alloc0 ?_ _ | with_reducible refine bel_regrown0 ?_ _ _ | with_reducible refine bel_regrown ?_ (by first | omega | (simp; done) | (simp; omega)) _ _ | with_reducible refine below_drewN ?_ _ | with_reducible refine Below.drew ?_ | with_reducible refine Below.alloc ?_ (by first | omega | (simp; done) | (simp; omega)) _ | with_reducible refine Below.setCell ?_ (by first | omega | (simp; done) | (simp; omega)) _ | with_reducible refine bel_step (by assumption) (by first | omega | (simp; done) | (simp; omega)) ?_ | with_reducible refine bel_grown (by assumption) (by first | omega | (simp; done) | (simp; omega)) (by first | omega | (simp; done) | (simp; omega)) ?_))⟩)
          | (go_roundw; (case rel => exact ⟨k + 1, by omega, by go_num, allB_next HA.out ((by (first | (simp [*]; done) | (go_light; simp_all; done) | (go_light; simp_all; omega)))), by (repeat (first | with_reducible exact Below.refl _ _ | with_reducible exact below_regrown _ _ _ | with_reducible refine bel_step0 (by assumption) ?_ | with_reducible refine bel_alloc0 ?_ _ | with_reducible refine bel_regrown0 ?_ _ _ | with_reducible refine bel_regrown ?_ (by first | omega | (simp; done) | (simp; omega)) _ _ | with_reducible refine below_drewN ?_ _ | with_reducible refine Below.drew ?_ | with_reducible refine Below.alloc ?_ (by first | omega | (simp; done) | (simp; omega)) _ | with_reducible refine Below.setCell ?_ (by first | omega | (simp; done) | (simp; omega)) _ | with_reducible refine bel_step (by assumption) (by first | omega | (simp; done) | (simp; omega)) ?_ | with_reducible refine bel_grown (by assumption) (by first | omega | (simp; done) | (simp; omega)) (by first | omega | (simp; done) | (simp; omega)) ?_))⟩); (case measure => simp [intOf]; omega))
      · go_wp2
        (go_ret; obtain rfl : k = n := (by omega); exact ⟨ret_bool (by unfold eqI; rw [HA.out]; simp), by (repeat (first | with_reducible exact Below.refl _ _ | with_reducible exact below_regrown _ _ _ | with_reducible refine bel_step0 (by assumption) ?_ | with_reducible refine bel_alloc0 ?_ _ | with_reducible refine bel_regrown0 ?_ _ _ | with_reducible refine bel_regrown ?_ (by first | omega | (simp; done) | (simp; omega)) _ _ | with_reducible refine below_drewN ?_ _ | with_reducible refine Below.drew ?_ | with_reducible refine Below.alloc ?_ (by first | omega | (simp; done) | (simp; omega)) _ | with_reducible refine Below.setCell ?_ (by first | omega | (simp; done) | (simp; omega)) _ | with_reducible refine bel_step (by assumption) (by first | omega | (simp; done) | (simp; omega)) ?_ | with_reducible refine bel_grown (by assumption) (by first | omega | (simp; done) | (simp; omega)) (by first | omega | (simp; done) | (simp; omega)) ?_))⟩)
  · have h1 : ((n : Int) == (m : Int)) = false := by simp; omega
    have h2 : ((n : Int) != (m : Int)) = true := by simp; omega
    go_enter Try.func37, Try.ntmps37
    go_wp2
    go_ret
    exact ⟨ret_bool (by unfold eqI; rw [decide_eq_false hnm]; rfl), Below.refl _ _⟩


theorem fill_step (F : Nat → Value) (z : Value) (k i : Nat) : (if i = k then F k else if i < k then F i else z) = if i < k + 1 then F i else z := by
  by_cases e : i = k
  · subst e; simp
  · rw [if_neg e]
    by_cases e2 : i < k
    · rw [if_pos e2, if_pos (by omega)]
    · rw [if_neg e2, if_neg (by omega)]
theorem info_int : (Try.prog.info? 3).map (fun i => (i.zero, i.size, i.bytes)) = some (some (.int .i64 0), 1, 8) := by kernel_rfl
/-- A new slice of n numbers. -/
def FI (lo : Nat) (w : World) (v : Value) (n : Nat) (f : Nat → Int) : Prop :=
  ∃ g, v = .slice (some ⟨g, 0, none⟩) n n ∧ lo ≤ g ∧ n ≤ 1048576 ∧ w.rowIs g 3 n (fun j => .int .i64 (f j))
theorem FI.si {lo : Nat} {w : World} {v : Value} {n : Nat} {f : Nat → Int} (h : FI lo w v n f) : SI w v n f := by
  obtain ⟨g, rfl, _, hn, hr⟩ := h
  exact ⟨_, _, rfl, fun h0 => ⟨g, 0, rfl, hr.lt, fun j hj => by simpa using hr.cell hj⟩, Nat.le_refl _, by omega⟩
theorem FI.setCell {lo : Nat} {w : World} {v : Value} {n : Nat} {f : Nat → Int} (h : FI lo w v n f) {p : Addr} (hp : p.block < lo) (u : Value) : FI lo (w.setCell p u) v n f := by
  obtain ⟨g, e, hl, hn, hr⟩ := h
  exact ⟨g, e, hl, hn, hr.setOther (by omega) u⟩
theorem FI.mono {lo lo' : Nat} {w : World} {v : Value} {n : Nat} {f : Nat → Int} (hl : lo' ≤ lo) (h : FI lo w v n f) : FI lo' w v n f :=
  let ⟨g, e, h1, h2⟩ := h
  ⟨g, e, by omega, h2⟩
theorem FI.below {lo : Nat} {w w' : World} {v : Value} {n : Nat} {f : Nat → Int} (hb : Below w.heap.size w w') (h : FI lo w v n f) : FI lo w' v n f := by
  obtain ⟨g, e, hl, hn, hr⟩ := h
  exact ⟨g, e, hl, hn, hr.of_block (hb.block g hr.lt)⟩
theorem C_toIntS (v : Value) (n : Nat) (f : Nat → Int) (w : World) (h : SI w v n f) (hn : n ≤ 1048576) :
    Calls Try.prog 71 #[v] w fun e w' => ∃ v', e = .returned v' ∧ FI w.heap.size w' v' n f ∧ Below w.heap.size w w' := by
  obtain ⟨A, cap, rfl, hr, hc, hm⟩ := h
  have HR := Lib.hid hr; clear hr
  have hmk := run_make_row' (P := Try.prog) 22 3 (.int .i64 0) 8 Try.underlying22 info_int rfl .i64 .i64 n (by omega) (by omega)
  go_enter Try.func71, Try.ntmps71
  go_wp2
  go_loopw [4] (fun i wr => ∃ k : Nat, k ≤ n ∧ i = .int .i64 k ∧ wr.rowIs w.heap.size 3 n (fun j => if j < k then .int .i64 (f j) else .int .i64 0) ∧ Below w.heap.size w wr) (fun i _ => n - (intOf i).toNat)
  case atStart => exact ⟨0, Nat.zero_le _, rfl, (World.rowIs_made w _ n _).congr (fun i hi => by simp), by (repeat (first | with_reducible exact Below.refl _ _ | with_reducible exact below_regrown _ _ _ | with_reducible refine bel_step0 (by assumption) ?_ | with_reducible refine bel_alloc0 ?_ _ | with_reducible refine bel_regrown0 ?_ _ _ | with_reducible refine bel_regrown ?_ (by first | omega | (simp; done) | (simp; omega)) _ _ | with_reducible refine below_drewN ?_ _ | with_reducible refine Below.drew ?_ | with_reducible refine Below.alloc ?_ (by first | omega | (simp; done) | (simp; omega)) _ | with_reducible refine Below.setCell ?_ (by first | omega | (simp; done) | (simp; omega)) _ | with_reducible refine bel_step (by assumption) (by first | omega | (simp; done) | (simp; omega)) ?_ | with_reducible refine bel_grown (by assumption) (by first | omega | (simp; done) | (simp; omega)) (by first | omega | (simp; done) | (simp; omega)) ?_))⟩
  case round =>
    obtain ⟨k, hk, rfl, ha, hB⟩ := hrel
    have HA := Lib.hid ha
    by_cases hlt : k < n
    · obtain ⟨b, off, rfl, hb, hcell⟩ := HR.out (by omega)
      have hck := (hB.cell (p := ⟨b, off + k, none⟩) hb).trans (hcell k hlt)
      have hold := ha.cell hlt
      have hfr := ha.frozen k
      clear hcell ha
      go_wp2
      go_roundw
      case rel => exact ⟨k + 1, by omega, by go_num, (HA.out.set k _).congr (fun i hi => fill_step (fun j => .int .i64 (f j)) _ k i), by (repeat (first | with_reducible exact Below.refl _ _ | with_reducible exact below_regrown _ _ _ | with_reducible refine bel_step0 (by assumption) ?_ | with_reducible refine bel_alloc0 ?_ _ | with_reducible refine bel_regrown0 ?_ _ _ | with_reducible refine bel_regrown ?_ (by first | omega | (simp; done) | (simp; omega)) _ _ | with_reducible refine below_drewN ?_ _ | with_reducible refine Below.drew ?_ | with_reducible refine Below.alloc ?_ (by first | omega | (simp; done) | (simp; omega)) _ | with_reducible refine Below.setCell ?_ (by first | omega | (simp; done) | (simp; omega)) _ | with_reducible refine bel_step (by assumption) (by first | omega | (simp; done) | (simp; omega)) ?_ | with_reducible refine bel_grown (by assumption) (by first | omega | (simp; done) | (simp; omega)) (by first | omega | (simp; done) | (simp; omega)) ?_))⟩
      case measure => simp [intOf]; omega
    · clear ha
      go_wp2
      go_ret
      obtain rfl : k = n := by omega
      exact ⟨_, rfl, ⟨_, rfl, Nat.le_refl _, hn, HA.out.congr (fun i hi => by rw [if_pos hi])⟩, hB⟩

end Go.Proofs.Ytcdffikambbleaa
