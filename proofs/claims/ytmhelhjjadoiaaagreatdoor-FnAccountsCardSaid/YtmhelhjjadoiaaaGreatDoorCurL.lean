/- What the draws of the cursor compute, as far as it matters. No condition but those stated. -/
import Derived.Test.YtmhelhjjadoiaaaGreatDoorCur
namespace Go.Proofs.YtmhelhjjadoiaaaGreatDoor
set_option linter.unusedVariables false
set_option linter.unusedSimpArgs false
open Go.RowKit Go.Sort
theorem Chg.grown {B : Nat} {w w' : World} (h : Chg B (B + 1) w w') : w.grownBy w' (some B) :=
  ⟨h.os, h.tape, h.output, h.size, fun i hi hne => h.block i hi (by have : i ≠ B := (fun e => hne (by rw [e])); omega)⟩
theorem Chg.of_grown {B : Nat} {w w' : World} (h : w.grownBy w' (some B)) : Chg B (B + 1) w w' :=
  ⟨h.os, h.tape, h.output, h.size, fun i hi hr => h.block i hi (by intro e; injection e with e; omega)⟩
theorem C_pick (B m : Nat) (n : Int) (w : World) (h : Cu w B m) (hm : m ≤ 1099511627776) (h1 : 1 ≤ n) (h2 : n ≤ 200) :
    Calls Tryz.prog 50 #[.pointer (some ⟨B, 0, none⟩), .int .i64 n] w fun e w' => ∃ r : Int, e = .returned (.int .i64 r) ∧ (0 ≤ r ∧ r < n) ∧ Cu w' B (m + 1) ∧ w.grownBy w' (some B) := by
  by_cases h1' : n ≤ 1
  · go_enter Tryz.func50, Tryz.ntmps50
    go_wp2_with fail
    go_ret
    exact ⟨0, rfl, ⟨by omega, by omega⟩, h.mono (by omega), World.grownBy.refl _ _⟩
  · go_enter Tryz.func50, Tryz.ntmps50
    go_wp2_with fail
    refine (C_next B m _ h hm).mono ?_; rintro e w1 ⟨x, rfl, ⟨hx0, hx1⟩, hcu, hc⟩
    go_wp2_with fail
    go_ret
    exact ⟨_, rfl, ⟨Int.emod_nonneg _ (by omega), Int.emod_lt_of_pos _ (by omega)⟩, hcu, hc.grown⟩
theorem C_one (B m : Nat) (n : Int) (w : World) (h : Cu w B m) (hm : m ≤ 1099511627776) (h1 : 1 ≤ n) (h2 : n ≤ 200) :
    Calls Tryz.prog 60 #[.pointer (some ⟨B, 0, none⟩), .int .i64 n] w fun e w' => ∃ b : Bool, e = .returned (.bool b) ∧ Cu w' B (m + 1) ∧ w.grownBy w' (some B) := by
  go_enter Tryz.func60, Tryz.ntmps60
  go_wp2_with fail
  refine (C_pick B m n _ h hm h1 h2).mono ?_; rintro e w1 ⟨x, rfl, ⟨hx0, hx1⟩, hcu, hc⟩
  go_wp2_with fail
  go_ret
  exact ⟨_, rfl, hcu, hc⟩
theorem C_among (B m : Nat) (xs : List Int) (w : World) (h : Cu w B m) (hm : m ≤ 1099511627776) (h1 : 1 ≤ xs.length) (h2 : xs.length ≤ 200) :
    Calls Tryz.prog 49 #[.pointer (some ⟨B, 0, none⟩), .slice (some ⟨w.heap.size, 0, none⟩) xs.length xs.length] (w.alloc (.cells (xs.map (Value.int .i64)).toArray 3)) fun e w' => ∃ x : Int, e = .returned (.int .i64 x) ∧ x ∈ xs ∧ Cu w' B (m + 1) ∧ (w.alloc (.cells (xs.map (Value.int .i64)).toArray 3)).grownBy w' (some B) := by
  have hlt := h.lt
  obtain ⟨w0, hw0⟩ : ∃ w0, w0 = w.alloc (.cells (xs.map (Value.int .i64)).toArray 3) := ⟨_, rfl⟩
  have hcu0 : Cu w0 B m := by rw [hw0]; exact h.below ((Below.refl _ _).alloc (Nat.le_refl _) _)
  have hz0 : w0.heap.size = w.heap.size + 1 := by rw [hw0]; simp
  have hcells : ∀ j, j < xs.length → w0.cell? ⟨w.heap.size, j, none⟩ = some (.int .i64 (ai xs j)) := fun j hj => by
    rw [hw0]; exact cell_new _ _ _ _ _ (by rw [List.getElem?_toArray]; exact ai_map hj)
  have hmem : ∀ j, j < xs.length → ai xs j ∈ xs := fun j hj => List.mem_of_getElem? (ai_lt hj)
  rw [← hw0]
  obtain ⟨n, hn⟩ : ∃ n, xs.length = n := ⟨_, rfl⟩
  obtain ⟨g, hg⟩ : ∃ g, w.heap.size = g := ⟨_, rfl⟩
  rw [hn] at h1 h2 hcells hmem ⊢
  rw [hg] at hcells hz0 hlt ⊢
  have HC := Lib.hid hcells
  have HM := Lib.hid hmem
  clear hw0 hn hg hcells hmem h
  go_enter Tryz.func49, Tryz.ntmps49
  go_wp2_with fail
  refine (C_pick B m n _ hcu0 hm (by omega) (by omega)).mono ?_; rintro e w1 ⟨x, rfl, ⟨hx0, hx1⟩, hcu, hc⟩
  obtain ⟨r, rfl⟩ : ∃ r : Nat, x = (r : Int) := ⟨x.toNat, by omega⟩
  have hr : r < n := by omega
  have hck : w1.cell? ⟨g, r, none⟩ = some (.int .i64 (ai xs r)) := (World.cell?_of_block (w := w0) (a := ⟨g, r, none⟩) (hc.block g (by omega) (by intro e; injection e with e; omega))).trans (HC.out r hr)
  go_wp2_with fail
  go_ret
  exact ⟨_, rfl, HM.out r hr, hcu, hc⟩
end Go.Proofs.YtmhelhjjadoiaaaGreatDoor
