/- Whether a record matches: the program. No condition but those stated. -/
import Derived.Test.YtjmfkenhnfdbjaaGreatDoorQyN
namespace Go.Proofs.YtjmfkenhnfdbjaaGreatDoor
set_option linter.unusedVariables false
set_option linter.unusedSimpArgs false
open Go.RowKit Go.Sort
/-- The query is one that a text gives. -/
def Qy.wf : Qy → Prop
  | .test c n => okT c n = true
  | .neg q => q.wf
  | .seq o m f => 0 < m ∧ ∀ j, j < m → (f j).wf
theorem wfL_snoc {L : List Qy} {q : Qy} (h : 0 < L.length ∧ ∀ j, j < L.length → (atQ L j).wf) (hq : q.wf) : 0 < (L ++ [q]).length ∧ ∀ j, j < (L ++ [q]).length → (atQ (L ++ [q]) j).wf := by
  rw [List.length_append, List.length_singleton]
  refine ⟨by omega, fun j hj => ?_⟩
  by_cases e : j < L.length
  · have : atQ (L ++ [q]) j = atQ L j := by unfold atQ; rw [List.getD_eq_getElem?_getD, List.getD_eq_getElem?_getD, List.getElem?_append_left e]
    rw [this]; exact h.2 j e
  · have e2 : j = L.length := by omega
    have : atQ (L ++ [q]) j = q := by subst e2; unfold atQ; rw [List.getD_eq_getElem?_getD, List.getElem?_append_right (Nat.le_refl _), Nat.sub_self]; rfl
    rw [this]; exact hq
section
variable {z : Nat} {b : Nat → Nat} {num : Nat → Option (Int × Nat)}
theorem pJ_wf {part : Nat → Option Out} {sgn : Nat} {or_ : Bool} (hp : ∀ a o, part a = some o → o.q.wf) : ∀ a o, pJ z b part sgn or_ a = some o → o.q.wf := by
  intro a o h
  obtain ⟨l, hX, he⟩ := pJ_ind (X := fun L _ _ => 0 < L.length ∧ ∀ j, j < L.length → (atQ L j).wf) (fun o h => ⟨by simp, fun j hj => by
    have : j = 0 := by simpa using hj
    subst this
    exact hp a o h⟩) (fun L d e o hX _ _ h => wfL_snoc hX (hp _ o h)) h
  rw [he]
  exact hX
theorem pFac_wf : ∀ k a o, pFac z b num k a = some o → o.q.wf := by
  intro k
  induction k with
  | zero => intro a o h; cases h
  | succ k ih =>
    intro a o h
    unfold pFac at h
    split at h
    · cases hp : pFac z b num k (a + 1) with
      | none => rw [hp] at h; cases h
      | some o1 =>
        rw [hp] at h
        simp only [Option.some.injEq] at h
        subst h
        exact ih (a + 1) o1 hp
    · split at h
      · cases hp : pJ z b (pJ z b (pFac z b num k) 38 false) 124 true (a + 1) with
        | none => rw [hp] at h; cases h
        | some o1 =>
          rw [hp] at h
          simp only at h
          split at h
          · simp only [Option.some.injEq] at h
            subst h
            exact pJ_wf (pJ_wf ih) (a + 1) o1 hp
          · cases h
      · unfold tstQ at h
        split at h
        · cases hp : num (a + 1) with
          | none => rw [hp] at h; cases h
          | some p =>
            rw [hp] at h
            simp only at h
            split at h
            · rename_i hk
              simp only [Option.some.injEq] at h
              subst h
              exact hk
            · cases h
        · cases h
end
theorem readQ_wf {s : ByteArray} {o : Out} (h : readQ s = some o) : o.q.wf := by
  unfold readQ parseQ at h
  split at h
  · cases hp : pQue s.size (bN s) (numA s) (s.size + 1) 0 with
    | none => rw [hp] at h; cases h
    | some o1 =>
      rw [hp] at h
      simp only at h
      split at h
      · injection h with h
        subst h
        exact pJ_wf (pJ_wf (pFac_wf _)) _ _ hp
      · cases h
  · cases h
def rqI (R : Rc) : Rq := ⟨R.ser, R.id, R.made, fun n => anyB R.n fun j => R.k j == n⟩
theorem C_eventAt1 (k d kind : Int) (B : Nat) (w : World) (hl : B < w.heap.size) (hB : w.cell? ⟨B, 0, none⟩ = some (.int .i64 kind)) :
    Calls Tryz.prog 87 #[.agg #[.int .i64 k, .int .i64 d], .pointer (some ⟨B, 0, none⟩)] w fun e w' => e = .returned (.bool (k == kind)) ∧ Below w.heap.size w w' := by
  have hB2 := cell_old (.cells #[.int .i64 k, .int .i64 d] 70) hl hB
  go_enter Tryz.func87, Tryz.ntmps87
  go_wp2
  go_ret
  exact ⟨ret_bool (by simp), by (repeat (first | with_reducible exact Below.refl _ _ | with_reducible exact below_regrown _ _ _ | with_reducible refine bel_step0 (by assumption) ?_ | with_reducible refine bel_alloc0 ?_ _ | with_reducible refine bel_regrown0 ?_ _ _ | with_reducible refine bel_regrown ?_ (by first | omega | (simp; done) | (simp; omega)) _ _ | with_reducible refine below_drewN ?_ _ | with_reducible refine Below.drew ?_ | with_reducible refine Below.alloc ?_ (by first | omega | (simp; done) | (simp; omega)) _ | with_reducible refine Below.setCell ?_ (by first | omega | (simp; done) | (simp; omega)) _ | with_reducible refine bel_step (by assumption) (by first | omega | (simp; done) | (simp; omega)) ?_ | with_reducible refine bel_grown (by assumption) (by first | omega | (simp; done) | (simp; omega)) (by first | omega | (simp; done) | (simp; omega)) ?_))⟩
set_option maxHeartbeats 2000000 in
theorem C_IndexFuncEv (sv : Value) (R : Rc) (B : Nat) (kind : Int) (w : World) (h : EvS w sv R) (hl : B < w.heap.size) (hB : w.cell? ⟨B, 0, none⟩ = some (.int .i64 kind)) :
    Calls Tryz.prog 86 #[sv, .func (.func 87) #[] #[.pointer (some ⟨B, 0, none⟩)]] w fun e w' => e = .returned (.int .i64 (firstB R.n fun j => R.k j == kind)) ∧ Below w.heap.size w w' := by
  obtain ⟨A, cap, rfl, hr, hc, hm⟩ := h
  have HR := Lib.hid hr; clear hr
  have HBC := Lib.hid hB; clear hB
  go_enter Tryz.func86, Tryz.ntmps86
  go_wp2
  go_loopw [8] (fun i wr => ∃ k : Nat, k ≤ R.n ∧ i = .int .i64 k ∧ anyB k (fun j => R.k j == kind) = false ∧ Below w.heap.size w wr) (fun i _ => R.n - (intOf i).toNat)
  case atStart => exact ⟨0, Nat.zero_le _, rfl, rfl, Below.refl _ _⟩
  case round =>
    obtain ⟨k, hk, rfl, ha, hB⟩ := hrel
    have HA := Lib.hid ha; clear ha
    have hbs := hB.size
    have HBE := Lib.hid hB
    by_cases hlt : k < R.n
    · obtain ⟨b, off, rfl, hb, hcell⟩ := HR.out (by omega)
      obtain ⟨e0, e1⟩ := hcell k hlt
      have d0 := (World.cell?_of_block (w := w) (a := ⟨b, off + k * 2, none⟩) (hB.block b hb)).trans e0
      have d1 := (World.cell?_of_block (w := w) (a := ⟨b, off + k * 2 + 1, none⟩) (hB.block b hb)).trans e1
      have hbc := (hB.cell (p := ⟨B, 0, none⟩) hl).trans HBC.out
      clear hcell e0 e1 hB
      go_wp2_with (go_at_call 87; refine (C_eventAt1 _ _ kind B _ (by omega) hbc).mono ?_; rintro e w' ⟨rfl, hb'⟩)
      all_goals first
        | (go_ret; exact ⟨ret_int (firstB_some hlt HA.out (by assumption)).symm, bel_step0 hb' HBE.out⟩)
        | (go_roundw; (case rel => exact ⟨k + 1, by omega, by go_num, anyB_next HA.out (by (first | (simp [*]; done) | (go_light; simp_all; done) | (go_light; simp_all; omega))), bel_step0 hb' HBE.out⟩); (case measure => simp [intOf]; omega))
    · obtain rfl : k = R.n := by omega
      go_wp2
      go_ret
      exact ⟨ret_int (firstB_none HA.out).symm, HBE.out⟩
theorem C_eventAt (R : Rc) (sv : Value) (kind : Int) (w : World) (h : EvS w sv R) :
    Calls Tryz.prog 71 #[.agg #[.int .i64 (R).id, .int .i64 (R).ser, .int .i64 (R).made, sv], .int .i64 kind] w fun e w' => e = .returned (.int .i64 (firstB R.n fun j => R.k j == kind)) ∧ Below w.heap.size w w' := by
  have B0 : Below w.heap.size w ((w.alloc (.cells #[.int .i64 R.id, .int .i64 R.ser, .int .i64 R.made, sv] 26)).alloc (.cells #[.int .i64 kind] 3)) := ((Below.refl _ _).alloc (Nat.le_refl _) _).alloc (by simp) _
  have HC := Lib.hid (C_IndexFuncEv sv R (w.heap.size + 1) kind _ (h.below B0) (by simp) (by simp))
  have HB := Lib.hid B0
  clear B0 h
  go_enter Tryz.func71, Tryz.ntmps71
  go_wp2_with fail
  refine HC.out.mono ?_; rintro e w1 ⟨rfl, hb⟩
  go_wp2
  go_ret
  exact ⟨rfl, bel_step0 hb HB.out⟩
end Go.Proofs.YtjmfkenhnfdbjaaGreatDoor
