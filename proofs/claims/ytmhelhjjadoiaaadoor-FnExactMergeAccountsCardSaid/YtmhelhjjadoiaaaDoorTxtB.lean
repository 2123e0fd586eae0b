/- What the functions on slices of texts compute, one contract for each. No condition but those stated. -/
import Derived.Test.YtmhelhjjadoiaaaDoorTxtA
import Derived.Test.YtmhelhjjadoiaaaDoorIntsA
namespace Go.Proofs.YtmhelhjjadoiaaaDoor
set_option linter.unusedVariables false
set_option linter.unusedSimpArgs false
open Go.RowKit Go.Sort

/-- The sum of the first k lengths. -/
def sumT (f : Nat → ByteArray) : Nat → Nat
  | 0 => 0
  | k + 1 => sumT f k + (f k).size
theorem sumT_mono (f : Nat → ByteArray) {k n : Nat} (h : k ≤ n) : sumT f k ≤ sumT f n := by
  induction n with
  | zero => have : k = 0 := by omega
            subst this; exact Nat.le_refl _
  | succ n ih =>
    by_cases e : k = n + 1
    · subst e; exact Nat.le_refl _
    · exact Nat.le_trans (ih (by omega)) (by simp [sumT])
theorem sumT_at (f : Nat → ByteArray) {j n : Nat} (h : j < n) : (f j).size ≤ sumT f n :=
  Nat.le_trans (by simp [sumT]) (sumT_mono f (show j + 1 ≤ n from h))
def szT (left : Int) (n : Nat) (f : Nat → ByteArray) : Int := if left - n - sumT f n < 0 then -1 else left - n - sumT f n
theorem szT_small {left : Int} {n : Nat} {f : Nat → ByteArray} (h : 0 ≤ szT left n f) : (n : Int) ≤ left ∧ (sumT f n : Int) ≤ left ∧ ∀ j, j < n → ((f j).size : Int) ≤ left := by
  unfold szT at h
  split at h
  · omega
  · refine ⟨by omega, by omega, fun j hj => ?_⟩
    have := sumT_at f hj
    omega
theorem szT_le {left : Int} {n : Nat} {f : Nat → ByteArray} (h : 0 ≤ szT left n f) : szT left n f ≤ left := by
  unfold szT at h ⊢
  split at h <;> split <;> omega
set_option maxHeartbeats 1000000 in
theorem C_szStringS (v : Value) (n : Nat) (f : Nat → ByteArray) (left : Int) (w : World) (h : TI w v n f) (hs : ∀ j, j < n → (f j).size ≤ 9223372036854775807) (h0 : 0 ≤ left) (h1 : left ≤ 1048576) :
    Calls Tryd.prog 35 #[v, .int .i64 left] w fun e w' => e = .returned (.int .i64 (szT left n f)) ∧ w = w' := by
  obtain ⟨A, cap, rfl, hr, hc, hm⟩ := h
  have HR := Lib.hid hr; clear hr
  have HS := Lib.hid hs; clear hs
  by_cases hlt0 : left - n < 0
  · go_enter Tryd.func35, Tryd.ntmps35
    go_wp2
    go_ret
    exact ⟨ret_int (by unfold szT; rw [if_pos (by omega)]), rfl⟩
  · go_enter Tryd.func35, Tryd.ntmps35
    go_wp2
    go_loop [1, 5] (fun q i => ∃ k : Nat, k ≤ n ∧ i = .int .i64 k ∧ q = .int .i64 (left - n - sumT f k) ∧ 0 ≤ left - n - sumT f k) (fun _ i => n - (intOf i).toNat)
    case atStart => exact ⟨0, Nat.zero_le _, rfl, by simp [sumT], by simp [sumT]; omega⟩
    case round =>
      obtain ⟨k, hk, rfl, rfl, hq⟩ := hrel
      by_cases hlt : k < n
      · obtain ⟨b, off, rfl, hb, hcell⟩ := HR.out (by omega)
        have hck := hcell k hlt
        have hsk := HS.out k hlt
        have hsum : sumT f (k + 1) = sumT f k + (f k).size := rfl
        have HSUM := Lib.hid hsum
        have hmono := sumT_mono f (show k + 1 ≤ n from hlt)
        rw [hsum] at hmono
        clear hcell hsum
        by_cases hneg : left - n - sumT f k - (f k).size < 0
        · go_wp2
          go_ret
          exact ⟨ret_int (by unfold szT; rw [if_pos (by omega)]), rfl⟩
        · go_wp2
          go_round
          case rel => exact ⟨k + 1, by omega, by go_num, by rw [HSUM.out]; go_num, by rw [HSUM.out]; omega⟩
          case measure => simp [intOf]; omega
      · obtain rfl : k = n := by omega
        go_wp2
        go_ret
        exact ⟨ret_int (by unfold szT; rw [if_neg (by omega)]), rfl⟩

theorem info_string : (Tryd.prog.info? 9).map (fun i => (i.zero, i.size, i.bytes)) = some (some (.string ByteArray.empty), 1, 16) := by kernel_rfl
/-- A new slice of n texts. -/
def FT (lo : Nat) (w : World) (v : Value) (n : Nat) (f : Nat → ByteArray) : Prop :=
  ∃ g, v = .slice (some ⟨g, 0, none⟩) n n ∧ lo ≤ g ∧ n ≤ 1048576 ∧ w.rowIs g 9 n (fun j => .string (f j))
theorem FT.ti {lo : Nat} {w : World} {v : Value} {n : Nat} {f : Nat → ByteArray} (h : FT lo w v n f) : TI w v n f := by
  obtain ⟨g, rfl, _, hn, hr⟩ := h
  exact ⟨_, _, rfl, fun h0 => ⟨g, 0, rfl, hr.lt, fun j hj => by simpa using hr.cell hj⟩, Nat.le_refl _, by omega⟩
theorem FT.below {lo : Nat} {w w' : World} {v : Value} {n : Nat} {f : Nat → ByteArray} (hb : Below w.heap.size w w') (h : FT lo w v n f) : FT lo w' v n f := by
  obtain ⟨g, e, hl, hn, hr⟩ := h
  exact ⟨g, e, hl, hn, hr.of_block (hb.block g hr.lt)⟩
theorem C_toStringS (v : Value) (n : Nat) (f : Nat → ByteArray) (w : World) (h : TI w v n f) (hn : n ≤ 1048576) :
    Calls Tryd.prog 37 #[v] w fun e w' => ∃ v', e = .returned v' ∧ FT w.heap.size w' v' n f ∧ Below w.heap.size w w' := by
  obtain ⟨A, cap, rfl, hr, hc, hm⟩ := h
  have HR := Lib.hid hr; clear hr
  have hmk := run_make_row' (P := Tryd.prog) 49 9 (.string ByteArray.empty) 16 Tryd.underlying49 info_string rfl .i64 .i64 n (by omega) (by omega)
  go_enter Tryd.func37, Tryd.ntmps37
  go_wp2
  go_loopw [4] (fun i wr => ∃ k : Nat, k ≤ n ∧ i = .int .i64 k ∧ wr.rowIs w.heap.size 9 n (fun j => if j < k then .string (f j) else .string ByteArray.empty) ∧ Below w.heap.size w wr) (fun i _ => n - (intOf i).toNat)
  case atStart => exact ⟨0, Nat.zero_le _, rfl, (World.rowIs_made w _ n _).congr (fun i hi => by simp), by (repeat (first | with_reducible exact Below.refl _ _ | with_reducible exact below_regrown _ _ _ | with_reducible refine bel_step0 (by assumption) ?_ | with_reducible refine bel_alloc0 ?_ _ | with_reducible refine bel_regrown0 ?_ _ _ | with_reducible refine bel_regrown ?_ (by first | omega | (simp; done) | (simp; omega)) _ _ | with_reducible refine below_drewN ?_ _ | with_reducible refine Below.drew ?_ | with_reducible refine Below.alloc ?_ (by first | omega | (simp; done) | (simp; omega)) _ | with_reducible refine Below.setCell ?_ (by first | omega | (simp; done) | (simp; omega)) _ | with_reducible refine bel_step (by assumption) (by first | omega | (simp; done) | (simp; omega)) ?_ | with_reducible refine bel_grown (by assumption) (by first | omega | (simp; done) | (simp; omega)) (by first | omega | (simp; done) | (simp; omega)) ?_))⟩
  case round =>
    obtain ⟨k, hk, rfl, ha, hB⟩ := hrel
    have HA := Lib.hid ha
    by_cases hlt : k < n
    · obtain ⟨b, off, rfl, hb, hcell⟩ := HR.out (by omega)
      have hck := (hB.cell (p := ⟨b, off + k, none⟩) hb).trans (hcell k hlt)
      have hold := ha.cell hlt
      have hfr := ha.frozen k
      clear hcell ha
      go_wp2
      go_roundw
      case rel => exact ⟨k + 1, by omega, by go_num, (HA.out.set k _).congr (fun i hi => fill_step (fun j => .string (f j)) _ k i), by (repeat (first | with_reducible exact Below.refl _ _ | with_reducible exact below_regrown _ _ _ | with_reducible refine bel_step0 (by assumption) ?_ | with_reducible refine bel_alloc0 ?_ _ | with_reducible refine bel_regrown0 ?_ _ _ | with_reducible refine bel_regrown ?_ (by first | omega | (simp; done) | (simp; omega)) _ _ | with_reducible refine below_drewN ?_ _ | with_reducible refine Below.drew ?_ | with_reducible refine Below.alloc ?_ (by first | omega | (simp; done) | (simp; omega)) _ | with_reducible refine Below.setCell ?_ (by first | omega | (simp; done) | (simp; omega)) _ | with_reducible refine bel_step (by assumption) (by first | omega | (simp; done) | (simp; omega)) ?_ | with_reducible refine bel_grown (by assumption) (by first | omega | (simp; done) | (simp; omega)) (by first | omega | (simp; done) | (simp; omega)) ?_))⟩
      case measure => simp [intOf]; omega
    · clear ha
      go_wp2
      go_ret
      obtain rfl : k = n := by omega
      exact ⟨_, rfl, ⟨_, rfl, Nat.le_refl _, hn, HA.out.congr (fun i hi => by rw [if_pos hi])⟩, hB⟩

def eqT (n m : Nat) (f g : Nat → ByteArray) : Bool := decide (n = m) && allB n fun j => (f j).toList == (g j).toList
theorem eqT_refl (n : Nat) (f : Nat → ByteArray) : eqT n n f f = true := by
  unfold eqT
  simp only [decide_true, Bool.true_and]
  exact allB_iff.2 fun j _ => by simp
theorem C_eqStringS (v v' : Value) (n m : Nat) (f g : Nat → ByteArray) (w : World) (h : TI w v n f) (h' : TI w v' m g) :
    Calls Tryd.prog 40 #[v, v'] w fun e w' => e = .returned (.bool (eqT n m f g)) ∧ Below w.heap.size w w' := by
  obtain ⟨A, cap, rfl, hr, hc, hm⟩ := h
  obtain ⟨A', cap', rfl, hr', hc', hm'⟩ := h'
  have HR := Lib.hid hr; clear hr
  have HR' := Lib.hid hr'; clear hr'
  by_cases hnm : n = m
  · subst hnm
    go_enter Tryd.func40, Tryd.ntmps40
    go_wp2
    go_loopw [5] (fun i wr => ∃ k : Nat, k ≤ n ∧ i = .int .i64 k ∧ allB k (fun j => (f j).toList == (g j).toList) = true ∧ Below w.heap.size w wr) (fun i _ => n - (intOf i).toNat)
    case atStart => exact ⟨0, Nat.zero_le _, rfl, rfl, Below.refl _ _⟩
    case round =>
      obtain ⟨k, hk, rfl, ha, hB⟩ := hrel
      have HA := Lib.hid ha; clear ha
      by_cases hlt : k < n
      · obtain ⟨b, off, rfl, hb, hcell⟩ := (HR.out.below hB) (by omega)
        obtain ⟨b', off', rfl, hb', hcell'⟩ := (HR'.out.below hB) (by omega)
        have hck := hcell k hlt
        have hck' := hcell' k hlt
        have hk0 : (0 : Int) ≤ (k : Int) := by omega
        have hk1 : (k : Int) < (n : Int) := by omega
        clear hcell hcell'
        go_wp2
        go_quiet (fail)
        go_wp2
        all_goals first
          | (go_ret; exact ⟨ret_bool (by unfold eqT; rw [allB_of_not hlt ((by (first | (simp [*]; done) | (go_light; simp_all; done) | (go_light; simp_all; omega))))]; simp), by (repeat (first | with_reducible exact Below.refl _ _ | with_reducible exact below_regrown _ _ _ | with_reducible refine bel_step0 (by assumption) ?_ | with_reducible refine bel_alloc0 ?_ _ | with_reducible refine bel_regrown0 ?_ _ _ | with_reducible refine bel_regrown ?_ (by first | omega | (simp; done) | (simp; omega)) _ _ | with_reducible refine below_drewN ?_ _ | with_reducible refine Below.drew ?_ | with_reducible refine Below.alloc ?_ (by first | omega | (simp; done) | (simp; omega)) _ | with_reducible refine Below.setCell ?_ (by first | omega | (simp; done) | (simp; omega)) _ | with_reducible refine bel_step (by assumption) (by first | omega | (simp; done) | (simp; omega)) ?_ | with_reducible refine bel_grown (by assumption) (by first | omega | (simp; done) | (simp; omega)) (by first | omega | (simp; done) | (simp; omega)) ?_))⟩)
          | (go_roundw; (case rel => exact ⟨k + 1, by omega, by go_num, allB_next HA.out ((by (first | (simp [*]; done) | (go_light; simp_all; done) | (go_light; simp_all; omega)))), by (repeat (first | with_reducible exact Below.refl _ _ | with_reducible exact below_regrown _ _ _ | with_reducible refine bel_step0 (by assumption) ?_ | with_reducible refine bel_alloc0 ?_ _ | with_reducible refine bel_regrown0 ?_ _ _ | with_reducible refine bel_regrown ?_ (by first | omega | (simp; done) | (simp; omega)) _ _ | with_reducible refine below_drewN ?_ _ | with_reducible refine Below.drew ?_ | with_reducible refine Below.alloc ?_ (by first | omega | (simp; done) | (simp; omega)) _ | with_reducible refine Below.setCell ?_ (by first | omega | (simp; done) | (simp; omega)) _ | with_reducible refine bel_step (by assumption) (by first | omega | (simp; done) | (simp; omega)) ?_ | with_reducible refine bel_grown (by assumption) (by first | omega | (simp; done) | (simp; omega)) (by first | omega | (simp; done) | (simp; omega)) ?_))⟩); (case measure => simp [intOf]; omega))
      · go_wp2
        (go_ret; obtain rfl : k = n := (by omega); exact ⟨ret_bool (by unfold eqT; rw [HA.out]; simp), by (repeat (first | with_reducible exact Below.refl _ _ | with_reducible exact below_regrown _ _ _ | with_reducible refine bel_step0 (by assumption) ?_ | with_reducible refine bel_alloc0 ?_ _ | with_reducible refine bel_regrown0 ?_ _ _ | with_reducible refine bel_regrown ?_ (by first | omega | (simp; done) | (simp; omega)) _ _ | with_reducible refine below_drewN ?_ _ | with_reducible refine Below.drew ?_ | with_reducible refine Below.alloc ?_ (by first | omega | (simp; done) | (simp; omega)) _ | with_reducible refine Below.setCell ?_ (by first | omega | (simp; done) | (simp; omega)) _ | with_reducible refine bel_step (by assumption) (by first | omega | (simp; done) | (simp; omega)) ?_ | with_reducible refine bel_grown (by assumption) (by first | omega | (simp; done) | (simp; omega)) (by first | omega | (simp; done) | (simp; omega)) ?_))⟩)
  · have h1 : ((n : Int) == (m : Int)) = false := by simp; omega
    have h2 : ((n : Int) != (m : Int)) = true := by simp; omega
    go_enter Tryd.func40, Tryd.ntmps40
    go_wp2
    go_ret
    exact ⟨ret_bool (by unfold eqT; rw [decide_eq_false hnm]; rfl), Below.refl _ _⟩
theorem C_eqStringS_same (v v' : Value) (n : Nat) (f : Nat → ByteArray) (w : World) (h : TI w v n f) (h' : TI w v' n f) :
    Calls Tryd.prog 40 #[v, v'] w fun e w' => e = .returned (.bool true) ∧ Below w.heap.size w w' :=
  (C_eqStringS v v' n n f f w h h').mono fun e w' hh => ⟨hh.1.trans (by rw [eqT_refl]), hh.2⟩
end Go.Proofs.YtmhelhjjadoiaaaDoor
