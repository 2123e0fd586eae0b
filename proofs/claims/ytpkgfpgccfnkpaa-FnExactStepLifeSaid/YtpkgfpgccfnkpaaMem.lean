/- Words on memory for this claim: slices that read as numbers. No condition. -/
import Derived.Test.YtpkgfpgccfnkpaaBase
import Derived.Test.YtpkgfpgccfnkpaaOpen
import Derived.ChangeSlices
import Derived.Deep.OwnRows
import Derived.Lib.QuietBelow
import Derived.Maps.AppendAt
import Derived.Deep.AppendLies
import Derived.Deep.RegionHeld3
namespace Go.Proofs.Ytpkgfpgccfnkpaa
set_option linter.unusedVariables false
open Go.RowKit Go.ChangeShapes Go.WideShapes Go.Deep

/-- The j-th number of a list, behind a name that the walk does not open. -/
def ai (xs : List Int) (j : Nat) : Int := xs.getD j 0
theorem ai_lt {xs : List Int} {j : Nat} (h : j < xs.length) : xs[j]? = some (ai xs j) := by
  unfold ai; rw [List.getD_eq_getElem?_getD, List.getElem?_eq_getElem h]; rfl
theorem ai_map {xs : List Int} {j : Nat} (h : j < xs.length) : (xs.map (Value.int .i64))[j]? = some (.int .i64 (ai xs j)) := by
  rw [List.getElem?_map, ai_lt h]; rfl

/-- The slice whose head is A reads as the n numbers f. -/
def RI (w : World) (A : Option Addr) (n : Nat) (f : Nat → Int) : Prop :=
  0 < n → ∃ b off, A = some ⟨b, off, none⟩ ∧ b < w.heap.size ∧ ∀ j, j < n → w.cell? ⟨b, off + j, none⟩ = some (.int .i64 (f j))

theorem RI.below {w w' : World} {A : Option Addr} {n : Nat} {f : Nat → Int} (hb : Below w.heap.size w w') (h : RI w A n f) : RI w' A n f := fun h0 => by
  obtain ⟨b, off, e, hl, hc⟩ := h h0
  exact ⟨b, off, e, Nat.lt_of_lt_of_le hl hb.size, fun j hj => (hb.cell (p := ⟨b, off + j, none⟩) hl).trans (hc j hj)⟩

/-- The value v is a slice of the n numbers f. -/
def SI (w : World) (v : Value) (n : Nat) (f : Nat → Int) : Prop :=
  ∃ A cap, v = .slice A n cap ∧ RI w A n f ∧ n ≤ cap ∧ cap ≤ 9223372036854775807
theorem SI.below {w w' : World} {v : Value} {n : Nat} {f : Nat → Int} (hb : Below w.heap.size w w') (h : SI w v n f) : SI w' v n f :=
  let ⟨A, cap, e, hr, h2⟩ := h
  ⟨A, cap, e, hr.below hb, h2⟩
theorem SI.drewN {w : World} {v : Value} {n : Nat} {f : Nat → Int} (k : Nat) (h : SI w v n f) : SI (w.drewN k) v n f := h
theorem SI.drew {w : World} {v : Value} {n : Nat} {f : Nat → Int} (h : SI w v n f) : SI w.drew v n f := h
theorem SI.alloc {w : World} {v : Value} {n : Nat} {f : Nat → Int} (o : Obj) (h : SI w v n f) : SI (w.alloc o) v n f :=
  h.below ((Below.refl _ _).alloc (Nat.le_refl _) _)

section
variable {H : Type} {enc : TypeId × Value → H} {P : Program} {w : World} {base : Nat} {spare : Nat → Bool} {held : Bool}
theorem ri_of_cells {a : Addr} {n : Nat} {f : Nat → Int} (h : ∀ i, i < n → w.cell? (a.add i) = some (.int .i64 (f i))) : RI w (some a) n f := fun h0 => by
  have h00 := h 0 h0
  obtain ⟨b, off, spot⟩ := a
  have hs : spot = none := by simpa [Addr.add] using World.cell?_spot h00
  subst hs
  refine ⟨b, off, rfl, ?_, fun j hj => ?_⟩
  · have := World.block_lt_of_cell? w _ h00
    simpa [Addr.add] using this
  · have := h j hj
    unfold Addr.add at this
    by_cases e : j = 0
    · subst e; simpa using this
    · rw [if_neg e] at this; exact this
/-- A slice of ints that came in. -/
theorem open_SI {t e : TypeId} {fuel : Nat} {v : Value} {x : DataW H × List MemPlace} (ht : P.underlying t = some (.slice e)) (he : P.underlying e = some (.int .i64)) (hc : P.cellsOf e = 1)
    (h : DataW.trod enc P w base spare held fuel t [v] = some x) : ∃ n f, SI w v n f ∧ ∀ j, j < n → I64 (f j) := by
  rcases open_ints ht he hc h with ⟨hcs, _⟩ | ⟨a, len, cap, zs, hcs, _, hl, hm, hz, _, hcell, hwz⟩
  · simp only [List.cons.injEq, and_true] at hcs
    exact ⟨0, fun _ => 0, ⟨none, 0, hcs, fun h => absurd h (by omega), by omega, by omega⟩, fun j hj => absurd hj (by omega)⟩
  · simp only [List.cons.injEq, and_true] at hcs
    have hle : len ≤ zs.length := by rw [hz]; split <;> omega
    refine ⟨len, fun j => zs.getD j 0, ⟨some a, cap, hcs, ri_of_cells fun i hi => hcell i (by omega), hl, by unfold maxLen at hm; omega⟩, fun j hj => ?_⟩
    have hmem : zs.getD j 0 ∈ zs := by
      rw [List.getD_eq_getElem?_getD, List.getElem?_eq_getElem (by omega)]
      exact List.getElem_mem _
    exact i64_of_wf (hwz _ hmem)
end

theorem bel_step0 {a W w1 : World} (h : Below W.heap.size W w1) (h0 : Below a.heap.size a W) : Below a.heap.size a w1 := h0.trans (h.mono h0.size)
theorem bel_alloc0 {a w : World} (h0 : Below a.heap.size a w) (o : Obj) : Below a.heap.size a (w.alloc o) := h0.alloc h0.size o
theorem bel_regrown0 {a w : World} (h0 : Below a.heap.size a w) (d : Nat) (os : Array Obj) : Below a.heap.size a (Go.Sort.grow (redrawn w d) os) := h0.trans ((below_regrown w d os).mono h0.size)
theorem bel_regrown {B : Nat} {a w : World} (h0 : Below B a w) (hz : B ≤ w.heap.size) (d : Nat) (os : Array Obj) : Below B a (Go.Sort.grow (redrawn w d) os) :=
  h0.trans ((below_regrown w d os).mono hz)
theorem cell_old {w : World} {b i : Nat} {v : Value} (o : Obj) (hb : b < w.heap.size) (h : w.cell? ⟨b, i, none⟩ = some v) : (w.alloc o).cell? ⟨b, i, none⟩ = some v :=
  (((Below.refl _ _).alloc (Nat.le_refl _) o).cell (p := ⟨b, i, none⟩) hb).trans h
theorem cell_new (w : World) (cs : Array Value) (t : TypeId) (i : Nat) (v : Value) (h : cs[i]? = some v) : (w.alloc (.cells cs t)).cell? ⟨w.heap.size, i, none⟩ = some v := by
  rw [show (w.alloc (.cells cs t)).cell? ⟨w.heap.size, i, none⟩ = cs[i]? by simp]; exact h
/-- All of the first n; some of the first n. -/
def allB (n : Nat) (p : Nat → Bool) : Bool := (List.range n).all p
def anyB (n : Nat) (p : Nat → Bool) : Bool := (List.range n).any p
theorem allB_zero (p : Nat → Bool) : allB 0 p = true := rfl
theorem anyB_zero (p : Nat → Bool) : anyB 0 p = false := rfl
theorem allB_succ (n : Nat) (p : Nat → Bool) : allB (n + 1) p = (allB n p && p n) := by
  simp [allB, List.range_succ, List.all_append]
theorem anyB_succ (n : Nat) (p : Nat → Bool) : anyB (n + 1) p = (anyB n p || p n) := by
  simp [anyB, List.range_succ, List.any_append]
theorem allB_iff {n : Nat} {p : Nat → Bool} : allB n p = true ↔ ∀ j, j < n → p j = true := by
  simp [allB, List.all_eq_true, List.mem_range]
theorem anyB_iff {n : Nat} {p : Nat → Bool} : anyB n p = true ↔ ∃ j, j < n ∧ p j = true := by
  simp [anyB, List.any_eq_true, List.mem_range]
theorem anyB_eq (n : Nat) (p : Nat → Bool) : anyB n p = !allB n (fun j => !p j) := by
  simp [anyB, allB, List.all_eq_not_any_not]
theorem allB_of_not {n k : Nat} {p : Nat → Bool} (hk : k < n) (h : p k = false) : allB n p = false := by
  rw [Bool.eq_false_iff]; intro ha
  rw [allB_iff.1 ha k hk] at h; cases h
theorem anyB_of {n k : Nat} {p : Nat → Bool} (hk : k < n) (h : p k = true) : anyB n p = true := anyB_iff.2 ⟨k, hk, h⟩
theorem allB_next {n : Nat} {p : Nat → Bool} (h : allB n p = true) (hp : p n = true) : allB (n + 1) p = true := by rw [allB_succ, h, hp]; rfl
theorem anyB_next {n : Nat} {p : Nat → Bool} (h : anyB n p = false) (hp : p n = false) : anyB (n + 1) p = false := by rw [anyB_succ, h, hp]; rfl
theorem allB_congr {n : Nat} {p q : Nat → Bool} (h : ∀ j, j < n → p j = q j) : allB n p = allB n q := by
  rw [Bool.eq_iff_iff, allB_iff, allB_iff]
  exact ⟨fun a j hj => (h j hj) ▸ a j hj, fun a j hj => (h j hj).symm ▸ a j hj⟩
theorem anyB_congr {n : Nat} {p q : Nat → Bool} (h : ∀ j, j < n → p j = q j) : anyB n p = anyB n q := by
  rw [Bool.eq_iff_iff, anyB_iff, anyB_iff]
  exact ⟨fun ⟨j, hj, e⟩ => ⟨j, hj, (h j hj) ▸ e⟩, fun ⟨j, hj, e⟩ => ⟨j, hj, (h j hj).symm ▸ e⟩⟩

end Go.Proofs.Ytpkgfpgccfnkpaa
