/- Slices of numbers that are written; contracts of the functions that mark them. No condition but those stated. -/
import Derived.Test.YtjmfkenhnfdbjaaGreatDoorIntsB
namespace Go.Proofs.YtjmfkenhnfdbjaaGreatDoor
set_option linter.unusedVariables false
set_option linter.unusedSimpArgs false
open Go.RowKit Go.Sort

/-- Of the blocks that were there, none below lo and none from hi on has turned. -/
structure Chg (lo hi : Nat) (w w' : World) : Prop where
  os : w'.os = w.os
  tape : w'.tape = w.tape
  output : w'.output = w.output
  size : w.heap.size ≤ w'.heap.size
  block : ∀ k, k < w.heap.size → (k < lo ∨ hi ≤ k) → w'.heap[k]? = w.heap[k]?
theorem Chg.refl (lo hi : Nat) (w : World) : Chg lo hi w w := ⟨rfl, rfl, rfl, Nat.le_refl _, fun _ _ _ => rfl⟩
theorem Chg.trans {lo hi : Nat} {a b c : World} (h : Chg lo hi a b) (k : Chg lo hi b c) : Chg lo hi a c :=
  ⟨k.os.trans h.os, k.tape.trans h.tape, k.output.trans h.output, Nat.le_trans h.size k.size, fun i hi' hr => (k.block i (Nat.lt_of_lt_of_le hi' h.size) hr).trans (h.block i hi' hr)⟩
theorem Chg.mono {lo hi lo' hi' : Nat} {a b : World} (h : Chg lo hi a b) (h1 : lo' ≤ lo) (h2 : hi ≤ hi') : Chg lo' hi' a b :=
  ⟨h.os, h.tape, h.output, h.size, fun i hi hr => h.block i hi (by omega)⟩
theorem Chg.of_below {lo hi : Nat} {a b : World} (h : Below a.heap.size a b) : Chg lo hi a b := ⟨h.os, h.tape, h.output, h.size, fun i hi' _ => h.block i hi'⟩
theorem Chg.setCell {lo hi : Nat} {a b : World} (h : Chg lo hi a b) {p : Addr} (h1 : lo ≤ p.block) (h2 : p.block < hi) (u : Value) : Chg lo hi a (b.setCell p u) :=
  h.trans ⟨rfl, rfl, rfl, by simp [World.setCell], fun k _ hk => Below.heap_setCell _ _ _ _ (by omega)⟩
theorem Chg.below {lo hi B : Nat} {a b : World} (h : Chg lo hi a b) (h1 : B ≤ lo) (h2 : B ≤ a.heap.size) : Below B a b :=
  ⟨h.os, h.tape, h.output, h.size, fun k hk => h.block k (by omega) (by omega)⟩
/-- Behind a writing call nothing has turned that was there when a came to be. -/
theorem bel_chg {lo hi : Nat} {a W w1 : World} (h : Chg lo hi W w1) (hl : a.heap.size ≤ lo) (h0 : Below a.heap.size a W) : Below a.heap.size a w1 := h0.trans (h.below hl h0.size)

/-- The value v is a slice of the n numbers f in a block from lo on and below hi; it may be written. -/
def WI (lo hi : Nat) (w : World) (v : Value) (n : Nat) (f : Nat → Int) : Prop :=
  ∃ A cap, v = .slice A n cap ∧ (0 < n → ∃ b off, A = some ⟨b, off, none⟩ ∧ lo ≤ b ∧ b < hi ∧ b < w.heap.size ∧ ∀ j, j < n → w.cell? ⟨b, off + j, none⟩ = some (.int .i64 (f j)) ∧ w.frozen? ⟨b, off + j, none⟩ = false) ∧ n ≤ cap ∧ cap ≤ 9223372036854775807
theorem WI.si {lo hi : Nat} {w : World} {v : Value} {n : Nat} {f : Nat → Int} (h : WI lo hi w v n f) : SI w v n f := by
  obtain ⟨A, cap, rfl, hr, hc, hm⟩ := h
  refine ⟨A, cap, rfl, fun h0 => ?_, hc, hm⟩
  obtain ⟨b, off, e, _, _, hl, hcell⟩ := hr h0
  exact ⟨b, off, e, hl, fun j hj => (hcell j hj).1⟩
theorem WI.chg {lo hi lo' hi' : Nat} {w w' : World} {v : Value} {n : Nat} {f : Nat → Int} (hc : Chg lo' hi' w w') (hd : hi ≤ lo' ∨ hi' ≤ lo) (h : WI lo hi w v n f) : WI lo hi w' v n f := by
  obtain ⟨A, cap, rfl, hr, h2⟩ := h
  refine ⟨A, cap, rfl, fun h0 => ?_, h2⟩
  obtain ⟨b, off, e, h3, h4, hl, hcell⟩ := hr h0
  have hb := hc.block b hl (by omega)
  exact ⟨b, off, e, h3, h4, Nat.lt_of_lt_of_le hl hc.size, fun j hj => ⟨(World.cell?_of_block (w := w) (a := ⟨b, off + j, none⟩) hb).trans (hcell j hj).1, (World.frozen?_of_block (w := w) (a := ⟨b, off + j, none⟩) hb).trans (hcell j hj).2⟩⟩
theorem WI.below {lo hi : Nat} {w w' : World} {v : Value} {n : Nat} {f : Nat → Int} (hb : Below w.heap.size w w') (h : WI lo hi w v n f) : WI lo hi w' v n f :=
  h.chg (lo' := hi) (hi' := hi) (Chg.of_below hb) (.inl (Nat.le_refl _))
theorem WI.mono {lo hi lo' hi' : Nat} {w : World} {v : Value} {n : Nat} {f : Nat → Int} (h : WI lo hi w v n f) (h1 : lo' ≤ lo) (h2 : hi ≤ hi') : WI lo' hi' w v n f := by
  obtain ⟨A, cap, rfl, hr, h3⟩ := h
  refine ⟨A, cap, rfl, fun h0 => ?_, h3⟩
  obtain ⟨b, off, e, h4, h5, h6⟩ := hr h0
  exact ⟨b, off, e, by omega, by omega, h6⟩
theorem WI.row {w : World} {g n : Nat} {f : Nat → Int} (hn : n ≤ 1048576) (h : w.rowIs g 3 n (fun j => .int .i64 (f j))) : WI g (g + 1) w (.slice (some ⟨g, 0, none⟩) n n) n f :=
  ⟨_, _, rfl, fun h0 => ⟨g, 0, rfl, Nat.le_refl _, by omega, h.lt, fun j hj => by rw [Nat.zero_add]; exact ⟨h.cell hj, h.frozen j⟩⟩, Nat.le_refl _, by omega⟩
/-- What a call has appended to a slice of its own. -/
theorem WI.own {w : World} {base : Nat} {v : Value} {xs : List Int} (h : w.ownsRow base 3 1 v xs.length (xs.map (Value.int .i64))) : WI base w.heap.size w v xs.length (ai xs) := by
  rcases h.2 with ⟨rfl, h0⟩ | ⟨g, cap, cur, rfl, hb, hh, hnc, hcm, hsz, htk⟩
  · exact ⟨none, 0, by rw [h0], fun h1 => absurd h1 (by omega), by omega, by omega⟩
  · have hg : g < w.heap.size := (Array.getElem?_eq_some_iff.1 hh).1
    refine ⟨_, _, rfl, fun _ => ⟨g, 0, rfl, hb, hg, hg, fun j hj => ⟨?_, ?_⟩⟩, hnc, by unfold maxLen at hcm; exact hcm⟩
    · have := h.cells (g := g) rfl j (.int .i64 (ai xs j)) (ai_map hj)
      rw [Nat.zero_add]
      unfold Addr.add at this
      by_cases e : j = 0
      · subst e; simpa using this
      · rw [if_neg e] at this; simpa using this
    · simp [World.frozen?, hh]

end Go.Proofs.YtjmfkenhnfdbjaaGreatDoor
