/- Slices of the call's own, seen block by block. No condition but those stated. -/
import Derived.Test.YtjmfkenhnfdbjaaGreatDoorIntsF
import Derived.Test.YtjmfkenhnfdbjaaGreatDoorAppB
namespace Go.Proofs.YtjmfkenhnfdbjaaGreatDoor
set_option linter.unusedVariables false
set_option linter.unusedSimpArgs false
open Go.RowKit Go.Sort
theorem own_of_block {w w' : World} {base : Nat} {e : TypeId} {size : Nat} {v : Value} {n : Nat} {xs : List Value} (h : w.ownsRow base e size v n xs) (hb : ∀ g, v.ownBlock = some g → w'.heap[g]? = w.heap[g]?) : w'.ownsRow base e size v n xs := by
  refine ⟨h.1, ?_⟩
  rcases h.2 with h0 | ⟨g, cap, cur, rfl, h1, h2, h3⟩
  · exact .inl h0
  · exact .inr ⟨g, cap, cur, rfl, h1, (hb g rfl).trans h2, h3⟩

theorem OI.of_block {base : Nat} {w w' : World} {v : Value} {xs : List Int} (h : OI base w v xs) (hb : ∀ g, v.ownBlock = some g → w'.heap[g]? = w.heap[g]?) : OI base w' v xs := own_of_block h hb
theorem OI.mono {base base' : Nat} {w : World} {v : Value} {xs : List Int} (hb : base' ≤ base) (h : OI base w v xs) : OI base' w v xs := by
  refine ⟨h.1, ?_⟩
  rcases h.2 with h0 | ⟨g, cap, cur, e, h1, h2⟩
  · exact .inl h0
  · exact .inr ⟨g, cap, cur, e, by omega, h2⟩
theorem cell_new' {w : World} {cs : Array Value} {t : TypeId} {i B : Nat} {v : Value} (hB : B = w.heap.size) (h : cs[i]? = some v) : (w.alloc (.cells cs t)).cell? ⟨B, i, none⟩ = some v := by
  subst hB; exact cell_new w cs t i v h
theorem SI.chg_ne {w w' : World} {v : Value} {n : Nat} {f : Nat → Int} {lo hi : Nat} (hc : Chg lo hi w w') (hb : ∀ q, v.ownBlock = some q → q < lo ∨ hi ≤ q) (h : SI w v n f) : SI w' v n f := by
  obtain ⟨A, cap, rfl, hr, h2⟩ := h
  refine ⟨A, cap, rfl, fun h0 => ?_, h2⟩
  obtain ⟨b, off, rfl, hl, hcell⟩ := hr h0
  have hk := hc.block b hl (hb b rfl)
  exact ⟨b, off, rfl, Nat.lt_of_lt_of_le hl hc.size, fun j hj => (World.cell?_of_block (w := w) (a := ⟨b, off + j, none⟩) hk).trans (hcell j hj)⟩
theorem OI.wi1 {base : Nat} {w : World} {v : Value} {xs : List Int} (h : OI base w v xs) : ∃ lo hi, WI lo hi w v xs.length (ai xs) ∧ base ≤ lo ∧ ∀ q, lo ≤ q → q < hi → v.ownBlock = some q := by
  rcases h.2 with ⟨rfl, h0⟩ | ⟨g, cap, cur, rfl, hb, hh, hnc, hcm, hsz, htk⟩
  · exact ⟨base, base, ⟨none, 0, by rw [h0], fun h1 => absurd h1 (by omega), by omega, by omega⟩, Nat.le_refl _, fun q h1 h2 => absurd h1 (by omega)⟩
  · obtain ⟨A, c, e, hr, h2⟩ := h.wi
    refine ⟨g, g + 1, ⟨A, c, e, fun h0 => ?_, h2⟩, hb, fun q h1 h2 => by rw [show q = g by omega]; rfl⟩
    obtain ⟨b, off, e2, _, _, h5, h6⟩ := hr h0
    have : b = g := by rw [e2] at e; injection e with e; injection e with e; injection e with e; exact e.symm
    exact ⟨b, off, e2, by omega, by omega, h5, h6⟩
end Go.Proofs.YtjmfkenhnfdbjaaGreatDoor
