/- Slices of slices of numbers. No condition but those stated. -/
import Derived.Test.YtmhelhjjadoiaaaGreatDoorLkO
namespace Go.Proofs.YtmhelhjjadoiaaaGreatDoor
set_option linter.unusedVariables false
set_option linter.unusedSimpArgs false
open Go.RowKit Go.Sort

/-- The value v is a slice of the n rows L. -/
def SSI (w : World) (v : Value) (n : Nat) (L : Nat → List Int) : Prop :=
  ∃ A cap, v = .slice A n cap ∧ (0 < n → ∃ b off, A = some ⟨b, off, none⟩ ∧ b < w.heap.size ∧ ∀ j, j < n → ∃ sv, SI w sv (L j).length (ai (L j)) ∧ w.cell? ⟨b, off + j, none⟩ = some sv) ∧ n ≤ cap ∧ cap ≤ 9223372036854775807
theorem SSI.at_ {w wr : World} {A : Option Addr} {n : Nat} {L : Nat → List Int} (hB : Below w.heap.size w wr)
    (h : 0 < n → ∃ b off, A = some ⟨b, off, none⟩ ∧ b < w.heap.size ∧ ∀ j, j < n → ∃ sv, SI w sv (L j).length (ai (L j)) ∧ w.cell? ⟨b, off + j, none⟩ = some sv) (h0 : 0 < n) :
    ∃ b off, A = some ⟨b, off, none⟩ ∧ b < wr.heap.size ∧ ∀ j, j < n → ∃ sv, SI wr sv (L j).length (ai (L j)) ∧ wr.cell? ⟨b, off + j, none⟩ = some sv := by
  obtain ⟨b, off, ea, hl, hc⟩ := h h0
  refine ⟨b, off, ea, Nat.lt_of_lt_of_le hl hB.size, fun j hj => ?_⟩
  obtain ⟨sv, hs, h0⟩ := hc j hj
  exact ⟨sv, hs.below hB, (hB.cell (p := ⟨b, off + j, none⟩) hl).trans h0⟩
theorem SSI.below {w w' : World} {v : Value} {n : Nat} {L : Nat → List Int} (hb : Below w.heap.size w w') (h : SSI w v n L) : SSI w' v n L :=
  let ⟨A, cap, e, hr, h2⟩ := h
  ⟨A, cap, e, SSI.at_ hb hr, h2⟩
theorem eqI_refl (n : Nat) (f : Nat → Int) : eqI n n f f = true := by
  unfold eqI; simp only [beq_self_eq_true, decide_true, Bool.true_and]; exact allB_iff.2 fun _ _ => rfl
/-- The value v is a slice of the rows L; it and each row lie in memory of the call's own. -/
def OSS (base : Nat) (w : World) (v : Value) (n : Nat) (L : Nat → List Int) : Prop :=
  ∃ S : Nat → Value, w.ownsRow base 29 1 v n ((List.range n).map S) ∧ (∀ j, j < n → OI base w (S j) (L j)) ∧ ∀ i j, i < n → j < n → i ≠ j → (S i).ownBlock = none ∨ (S i).ownBlock ≠ (S j).ownBlock
theorem OSS.nil (base : Nat) (w : World) (L : Nat → List Int) : OSS base w (.slice none 0 0) 0 L :=
  ⟨fun _ => .slice none 0 0, World.ownsRow_nil w base _ _, fun j hj => absurd hj (by omega), fun i j hi => absurd hi (by omega)⟩
theorem OSS.empty {base : Nat} {w : World} (hb : base ≤ w.heap.size) (L : Nat → List Int) : OSS base (w.alloc (.cells #[] 29)) (.slice (some ⟨w.heap.size, 0, none⟩) 0 0) 0 L :=
  ⟨fun _ => .slice none 0 0, World.ownsRow_made w #[] 0 hb (by decide) rfl, fun j hj => absurd hj (by omega), fun i j hi => absurd hi (by omega)⟩
theorem OSS.below {base : Nat} {w w' : World} {v : Value} {n : Nat} {L : Nat → List Int} (hb : Below w.heap.size w w') (h : OSS base w v n L) : OSS base w' v n L := by
  obtain ⟨S, h1, h2, h3⟩ := h
  exact ⟨S, own_of_block h1 fun g hg => hb.block g (h1.lt g hg).2, fun j hj => (h2 j hj).below hb, h3⟩
theorem OSS.chg {base lo hi : Nat} {w w' : World} {v : Value} {n : Nat} {L : Nat → List Int} (hc : Chg lo hi w w') (hl : hi ≤ base) (h : OSS base w v n L) : OSS base w' v n L := by
  obtain ⟨S, h1, h2, h3⟩ := h
  exact ⟨S, own_of_block h1 fun g hg => hc.block g (h1.lt g hg).2 (.inr (by have := (h1.lt g hg).1; omega)),
    fun j hj => (h2 j hj).of_block fun g hg => hc.block g (World.ownsRow.lt (h2 j hj) g hg).2 (.inr (by have := (World.ownsRow.lt (h2 j hj) g hg).1; omega)), h3⟩
theorem OSS.mono {base base' : Nat} {w : World} {v : Value} {n : Nat} {L : Nat → List Int} (hb : base' ≤ base) (h : OSS base w v n L) : OSS base' w v n L := by
  obtain ⟨S, h1, h2, h3⟩ := h
  refine ⟨S, ⟨h1.1, ?_⟩, fun j hj => (h2 j hj).mono hb, h3⟩
  rcases h1.2 with h0 | ⟨g, cap, cur, e, h4, h5⟩
  · exact .inl h0
  · exact .inr ⟨g, cap, cur, e, by omega, h5⟩
theorem rowsA {base : Nat} {w : World} {v : Value} {n : Nat} {S : Nat → Value} (h1 : w.ownsRow base 29 1 v n ((List.range n).map S)) :
    ∃ A cap, v = .slice A n cap ∧ n ≤ cap ∧ cap ≤ 9223372036854775807 ∧ (0 < n → ∃ g, A = some ⟨g, 0, none⟩ ∧ base ≤ g ∧ g < w.heap.size ∧ ∀ j, j < n → w.cell? ⟨g, j, none⟩ = some (S j)) := by
  have hh := h1
  rcases h1.2 with ⟨rfl, rfl⟩ | ⟨g, cap, cur, rfl, hb, hg, hnc, hcm, _⟩
  · exact ⟨none, 0, rfl, by omega, by omega, fun h => absurd h (by omega)⟩
  · refine ⟨_, cap, rfl, hnc, by unfold maxLen at hcm; exact hcm, fun _ => ⟨g, rfl, hb, (Array.getElem?_eq_some_iff.1 hg).1, fun j hj => ?_⟩⟩
    rw [hh.cellAt j (by omega), List.getElem?_map, List.getElem?_range hj]; rfl
theorem rows_ssi {base : Nat} {w : World} {v : Value} {n : Nat} {S : Nat → Value} {L : Nat → List Int} (h1 : w.ownsRow base 29 1 v n ((List.range n).map S)) (h2 : ∀ j, j < n → SI w (S j) (L j).length (ai (L j))) : SSI w v n L := by
  obtain ⟨A, cap, rfl, hc, hm, hA⟩ := rowsA h1
  refine ⟨A, cap, rfl, fun h0 => ?_, hc, hm⟩
  obtain ⟨g, rfl, _, hl, hcell⟩ := hA h0
  exact ⟨g, 0, rfl, hl, fun j hj => ⟨S j, h2 j hj, by rw [Nat.zero_add]; exact hcell j hj⟩⟩
theorem OSS.ssi {base : Nat} {w : World} {v : Value} {n : Nat} {L : Nat → List Int} (h : OSS base w v n L) : SSI w v n L := by
  obtain ⟨S, h1, h2, _⟩ := h
  exact rows_ssi h1 fun j hj => (h2 j hj).wi.si
theorem rows_ne {base base' : Nat} {w : World} {v s : Value} {n : Nat} {ys : List Value} {xs : List Int} (h1 : w.ownsRow base 29 1 v n ys) (k : OI base' w s xs) {g : Nat} (hg : v.ownBlock = some g) : s.ownBlock ≠ some g := by
  intro hs
  rcases h1.2 with ⟨rfl, _⟩ | ⟨g1, _, cur, rfl, _, hh, _⟩
  · cases hg
  rcases k.2 with ⟨rfl, _⟩ | ⟨g2, _, cur2, rfl, _, hh2, _⟩
  · cases hs
  simp only [Value.ownBlock, Option.some.injEq] at hg hs
  subst hg
  rw [hs] at hh2
  rw [hh2] at hh
  injection hh with hh
  injection hh with _ e
  exact absurd e (by decide)
end Go.Proofs.YtmhelhjjadoiaaaGreatDoor
