/- Whether a record matches a query: the program. No condition but those stated. -/
import Derived.Test.YtjmfkenhnfdbjaaGreatDoorQyS
import Derived.Test.YtjmfkenhnfdbjaaGreatDoorQyP
namespace Go.Proofs.YtjmfkenhnfdbjaaGreatDoor
set_option linter.unusedVariables false
set_option linter.unusedSimpArgs false
open Go.RowKit Go.Sort
theorem C_matches1 (R : Rc) (sv : Value) (x : Tq) (b : Bool) (B : Nat) (w : World) (hl : B < w.heap.size) (hB : Box w B R sv) (HM : ∀ w', Below w.heap.size w w' → Calls Tryz.prog 37 #[.agg #[.int .u8 (x).c, .int .i64 (x).n, .slice (x).A (x).m (x).k], .agg #[.int .i64 (R).id, .int .i64 (R).ser, .int .i64 (R).made, sv]] w' fun e w'' => e = .returned (.bool (b)) ∧ Below w'.heap.size w' w'') :
    Calls Tryz.prog 68 #[.agg #[.int .u8 (x).c, .int .i64 (x).n, .slice (x).A (x).m (x).k], .pointer (some ⟨B, 0, none⟩)] w fun e w' => e = .returned (.bool (b)) ∧ Below w.heap.size w w' := by
  have B0 : Below w.heap.size w (w.alloc (.cells #[.int .u8 (x).c, .int .i64 (x).n, .slice (x).A (x).m (x).k] 61)) := (Below.refl _ _).alloc (Nat.le_refl _) _
  obtain ⟨b0, b1, b2, b3⟩ := hB.below hl B0
  have HC := Lib.hid (HM _ B0)
  have HB0 := Lib.hid B0
  clear HM hB B0
  go_enter Tryz.func68, Tryz.ntmps68
  go_wp2_with fail
  refine HC.out.mono ?_; rintro e w1 ⟨rfl, hb⟩
  go_wp2
  go_ret
  exact ⟨rfl, bel_step0 hb HB0.out⟩
set_option maxHeartbeats 4000000 in
theorem C_IndexQ1 (R : Rc) (sv : Value) (g m k : Nat) (y : Nat → Tq) (p : Nat → Bool) (B : Nat) (w : World) (hl : B < w.heap.size) (hB : Box w B R sv) (hg : g < w.heap.size) (hmk : m ≤ k) (hk : k ≤ 9223372036854775807)
    (hc : ∀ j, j < m → w.cell? ⟨g, j * 3, none⟩ = some (.int .u8 (y j).c) ∧ w.cell? ⟨g, j * 3 + 1, none⟩ = some (.int .i64 (y j).n) ∧ w.cell? ⟨g, j * 3 + 2, none⟩ = some (.slice (y j).A (y j).m (y j).k))
    (HM : ∀ j, j < m → ∀ w', Below w.heap.size w w' → Calls Tryz.prog 37 #[.agg #[.int .u8 (y j).c, .int .i64 (y j).n, .slice (y j).A (y j).m (y j).k], .agg #[.int .i64 (R).id, .int .i64 (R).ser, .int .i64 (R).made, sv]] w' fun e w'' => e = .returned (.bool (p j)) ∧ Below w'.heap.size w' w'') :
    Calls Tryz.prog 85 #[.slice (some ⟨g, 0, none⟩) m k, .func (.func 68) #[] #[.pointer (some ⟨B, 0, none⟩)]] w fun e w' => e = .returned (.int .i64 (firstB m fun j => p j)) ∧ Below w.heap.size w w' := by
  have HCC := Lib.hid hc
  have HMM := Lib.hid HM
  have HBX := Lib.hid hB
  clear hc HM hB
  go_enter Tryz.func85, Tryz.ntmps85
  go_wp2
  go_loopw [8] (fun i wr => ∃ j : Nat, j ≤ m ∧ i = .int .i64 j ∧ anyB j (fun j => p j) = false ∧ Below w.heap.size w wr) (fun i _ => m - (intOf i).toNat)
  case atStart => exact ⟨0, Nat.zero_le _, rfl, rfl, Below.refl _ _⟩
  case round =>
    obtain ⟨j, hj, rfl, ha, hB⟩ := hrel
    have HA := Lib.hid ha
    have hbs := hB.size
    have HBE := Lib.hid hB
    clear ha
    by_cases hlt : j < m
    · obtain ⟨e0, e1, e2⟩ := HCC.out j hlt
      have d0 := (World.cell?_of_block (w := w) (a := ⟨g, j * 3, none⟩) (hB.block g hg)).trans e0
      have d1 := (World.cell?_of_block (w := w) (a := ⟨g, j * 3 + 1, none⟩) (hB.block g hg)).trans e1
      have d2 := (World.cell?_of_block (w := w) (a := ⟨g, j * 3 + 2, none⟩) (hB.block g hg)).trans e2
      have HCL := Lib.hid (C_matches1 R sv (y j) (p j) B wr (by omega) (HBX.out.below hl hB) (fun w' hw' => HMM.out j hlt w' (bel_step0 hw' HBE.out)))
      clear e0 e1 e2 hB
      cases hp : p j
      all_goals
        have HP := Lib.hid hp
        rw [hp] at HCL
        clear hp
        go_wp2_with fail
        refine HCL.out.mono ?_; rintro e' w3 ⟨rfl, hb'⟩
        have HB3 := Lib.hid (bel_step0 hb' HBE.out)
        clear hb' HCL
        go_wp2
      all_goals first
        | (go_ret; exact ⟨ret_int (firstB_some hlt HA.out (by simp [HP.out])).symm, HB3.out⟩)
        | (go_roundw; (case rel => exact ⟨j + 1, by omega, by go_num, anyB_next HA.out (by simp [HP.out]), HB3.out⟩); (case measure => simp [intOf]; omega))
    · obtain rfl : j = m := by omega
      go_wp2
      go_ret
      exact ⟨ret_int (firstB_none HA.out).symm, HBE.out⟩
theorem C_ContainsQ1 (R : Rc) (sv : Value) (g m k : Nat) (y : Nat → Tq) (p : Nat → Bool) (B : Nat) (w : World) (hl : B < w.heap.size) (hB : Box w B R sv) (hg : g < w.heap.size) (hmk : m ≤ k) (hk : k ≤ 9223372036854775807)
    (hc : ∀ j, j < m → w.cell? ⟨g, j * 3, none⟩ = some (.int .u8 (y j).c) ∧ w.cell? ⟨g, j * 3 + 1, none⟩ = some (.int .i64 (y j).n) ∧ w.cell? ⟨g, j * 3 + 2, none⟩ = some (.slice (y j).A (y j).m (y j).k))
    (HM : ∀ j, j < m → ∀ w', Below w.heap.size w w' → Calls Tryz.prog 37 #[.agg #[.int .u8 (y j).c, .int .i64 (y j).n, .slice (y j).A (y j).m (y j).k], .agg #[.int .i64 (R).id, .int .i64 (R).ser, .int .i64 (R).made, sv]] w' fun e w'' => e = .returned (.bool (p j)) ∧ Below w'.heap.size w' w'') :
    Calls Tryz.prog 69 #[.slice (some ⟨g, 0, none⟩) m k, .func (.func 68) #[] #[.pointer (some ⟨B, 0, none⟩)]] w fun e w' => e = .returned (.bool (anyB m fun j => p j)) ∧ Below w.heap.size w w' := by
  have HC := Lib.hid (C_IndexQ1 R sv g m k y p B w hl hB hg hmk hk hc HM)
  clear hc HM hB
  go_enter Tryz.func69, Tryz.ntmps69
  go_wp2_with fail
  refine HC.out.mono ?_; rintro e w1 ⟨rfl, hb⟩
  go_wp2
  go_ret
  exact ⟨ret_bool firstB_ge, hb⟩
theorem C_matches2 (R : Rc) (sv : Value) (x : Tq) (b : Bool) (B : Nat) (w : World) (hl : B < w.heap.size) (hB : Box w B R sv) (HM : ∀ w', Below w.heap.size w w' → Calls Tryz.prog 37 #[.agg #[.int .u8 (x).c, .int .i64 (x).n, .slice (x).A (x).m (x).k], .agg #[.int .i64 (R).id, .int .i64 (R).ser, .int .i64 (R).made, sv]] w' fun e w'' => e = .returned (.bool (b)) ∧ Below w'.heap.size w' w'') :
    Calls Tryz.prog 70 #[.agg #[.int .u8 (x).c, .int .i64 (x).n, .slice (x).A (x).m (x).k], .pointer (some ⟨B, 0, none⟩)] w fun e w' => e = .returned (.bool (!b)) ∧ Below w.heap.size w w' := by
  have B0 : Below w.heap.size w (w.alloc (.cells #[.int .u8 (x).c, .int .i64 (x).n, .slice (x).A (x).m (x).k] 61)) := (Below.refl _ _).alloc (Nat.le_refl _) _
  obtain ⟨b0, b1, b2, b3⟩ := hB.below hl B0
  have HC := Lib.hid (HM _ B0)
  have HB0 := Lib.hid B0
  clear HM hB B0
  go_enter Tryz.func70, Tryz.ntmps70
  go_wp2_with fail
  refine HC.out.mono ?_; rintro e w1 ⟨rfl, hb⟩
  go_wp2
  go_ret
  exact ⟨rfl, bel_step0 hb HB0.out⟩
set_option maxHeartbeats 4000000 in
theorem C_IndexQ2 (R : Rc) (sv : Value) (g m k : Nat) (y : Nat → Tq) (p : Nat → Bool) (B : Nat) (w : World) (hl : B < w.heap.size) (hB : Box w B R sv) (hg : g < w.heap.size) (hmk : m ≤ k) (hk : k ≤ 9223372036854775807)
    (hc : ∀ j, j < m → w.cell? ⟨g, j * 3, none⟩ = some (.int .u8 (y j).c) ∧ w.cell? ⟨g, j * 3 + 1, none⟩ = some (.int .i64 (y j).n) ∧ w.cell? ⟨g, j * 3 + 2, none⟩ = some (.slice (y j).A (y j).m (y j).k))
    (HM : ∀ j, j < m → ∀ w', Below w.heap.size w w' → Calls Tryz.prog 37 #[.agg #[.int .u8 (y j).c, .int .i64 (y j).n, .slice (y j).A (y j).m (y j).k], .agg #[.int .i64 (R).id, .int .i64 (R).ser, .int .i64 (R).made, sv]] w' fun e w'' => e = .returned (.bool (p j)) ∧ Below w'.heap.size w' w'') :
    Calls Tryz.prog 85 #[.slice (some ⟨g, 0, none⟩) m k, .func (.func 70) #[] #[.pointer (some ⟨B, 0, none⟩)]] w fun e w' => e = .returned (.int .i64 (firstB m fun j => !p j)) ∧ Below w.heap.size w w' := by
  have HCC := Lib.hid hc
  have HMM := Lib.hid HM
  have HBX := Lib.hid hB
  clear hc HM hB
  go_enter Tryz.func85, Tryz.ntmps85
  go_wp2
  go_loopw [8] (fun i wr => ∃ j : Nat, j ≤ m ∧ i = .int .i64 j ∧ anyB j (fun j => !p j) = false ∧ Below w.heap.size w wr) (fun i _ => m - (intOf i).toNat)
  case atStart => exact ⟨0, Nat.zero_le _, rfl, rfl, Below.refl _ _⟩
  case round =>
    obtain ⟨j, hj, rfl, ha, hB⟩ := hrel
    have HA := Lib.hid ha
    have hbs := hB.size
    have HBE := Lib.hid hB
    clear ha
    by_cases hlt : j < m
    · obtain ⟨e0, e1, e2⟩ := HCC.out j hlt
      have d0 := (World.cell?_of_block (w := w) (a := ⟨g, j * 3, none⟩) (hB.block g hg)).trans e0
      have d1 := (World.cell?_of_block (w := w) (a := ⟨g, j * 3 + 1, none⟩) (hB.block g hg)).trans e1
      have d2 := (World.cell?_of_block (w := w) (a := ⟨g, j * 3 + 2, none⟩) (hB.block g hg)).trans e2
      have HCL := Lib.hid (C_matches2 R sv (y j) (p j) B wr (by omega) (HBX.out.below hl hB) (fun w' hw' => HMM.out j hlt w' (bel_step0 hw' HBE.out)))
      clear e0 e1 e2 hB
      cases hp : p j
      all_goals
        have HP := Lib.hid hp
        rw [hp] at HCL
        clear hp
        go_wp2_with fail
        refine HCL.out.mono ?_; rintro e' w3 ⟨rfl, hb'⟩
        have HB3 := Lib.hid (bel_step0 hb' HBE.out)
        clear hb' HCL
        go_wp2
      all_goals first
        | (go_ret; exact ⟨ret_int (firstB_some hlt HA.out (by simp [HP.out])).symm, HB3.out⟩)
        | (go_roundw; (case rel => exact ⟨j + 1, by omega, by go_num, anyB_next HA.out (by simp [HP.out]), HB3.out⟩); (case measure => simp [intOf]; omega))
    · obtain rfl : j = m := by omega
      go_wp2
      go_ret
      exact ⟨ret_int (firstB_none HA.out).symm, HBE.out⟩
theorem C_ContainsQ2 (R : Rc) (sv : Value) (g m k : Nat) (y : Nat → Tq) (p : Nat → Bool) (B : Nat) (w : World) (hl : B < w.heap.size) (hB : Box w B R sv) (hg : g < w.heap.size) (hmk : m ≤ k) (hk : k ≤ 9223372036854775807)
    (hc : ∀ j, j < m → w.cell? ⟨g, j * 3, none⟩ = some (.int .u8 (y j).c) ∧ w.cell? ⟨g, j * 3 + 1, none⟩ = some (.int .i64 (y j).n) ∧ w.cell? ⟨g, j * 3 + 2, none⟩ = some (.slice (y j).A (y j).m (y j).k))
    (HM : ∀ j, j < m → ∀ w', Below w.heap.size w w' → Calls Tryz.prog 37 #[.agg #[.int .u8 (y j).c, .int .i64 (y j).n, .slice (y j).A (y j).m (y j).k], .agg #[.int .i64 (R).id, .int .i64 (R).ser, .int .i64 (R).made, sv]] w' fun e w'' => e = .returned (.bool (p j)) ∧ Below w'.heap.size w' w'') :
    Calls Tryz.prog 69 #[.slice (some ⟨g, 0, none⟩) m k, .func (.func 70) #[] #[.pointer (some ⟨B, 0, none⟩)]] w fun e w' => e = .returned (.bool (anyB m fun j => !p j)) ∧ Below w.heap.size w w' := by
  have HC := Lib.hid (C_IndexQ2 R sv g m k y p B w hl hB hg hmk hk hc HM)
  clear hc HM hB
  go_enter Tryz.func69, Tryz.ntmps69
  go_wp2_with fail
  refine HC.out.mono ?_; rintro e w1 ⟨rfl, hb⟩
  go_wp2
  go_ret
  exact ⟨ret_bool firstB_ge, hb⟩
end Go.Proofs.YtjmfkenhnfdbjaaGreatDoor
