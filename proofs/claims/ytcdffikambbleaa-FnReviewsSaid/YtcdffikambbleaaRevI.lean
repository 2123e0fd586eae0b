/- Lists of reviews that a call owns. No condition but those stated. -/
import Derived.Test.YtcdffikambbleaaRevH
import Derived.Test.YtcdffikambbleaaAppB
namespace Go.Proofs.Ytcdffikambbleaa
set_option linter.unusedVariables false
set_option linter.unusedSimpArgs false
open Go.RowKit Go.Sort

structure Rl where
  rid : Int
  due : Int
  vs : List Int
def Rl.rv (x : Rl) : Rv := ⟨x.rid, x.due, x.vs.length, ai x.vs⟩

theorem own_of_block {w w' : World} {base : Nat} {e : TypeId} {size : Nat} {v : Value} {n : Nat} {xs : List Value} (h : w.ownsRow base e size v n xs) (hb : ∀ g, v.ownBlock = some g → w'.heap[g]? = w.heap[g]?) : w'.ownsRow base e size v n xs := by
  refine ⟨h.1, ?_⟩
  rcases h.2 with h0 | ⟨g, cap, cur, rfl, h1, h2, h3⟩
  · exact .inl h0
  · exact .inr ⟨g, cap, cur, rfl, h1, (hb g rfl).trans h2, h3⟩

/-- The value v is a slice of n reviews of the call's own; its cells are F. -/
def own3 (base : Nat) (w : World) (v : Value) (n : Nat) (F : Nat → Value) : Prop :=
  ∃ xs : List Value, w.ownsRow base 27 3 v n xs ∧ ∀ i, i < n * 3 → xs[i]? = some (F i)
theorem own3.congr {base : Nat} {w : World} {v : Value} {n : Nat} {F G : Nat → Value} (h : own3 base w v n F) (e : ∀ i, i < n * 3 → F i = G i) : own3 base w v n G :=
  let ⟨xs, h1, h2⟩ := h
  ⟨xs, h1, fun i hi => by rw [h2 i hi, e i hi]⟩
theorem own3.of_block {base : Nat} {w w' : World} {v : Value} {n : Nat} {F : Nat → Value} (h : own3 base w v n F) (hb : ∀ g, v.ownBlock = some g → w'.heap[g]? = w.heap[g]?) : own3 base w' v n F :=
  let ⟨xs, h1, h2⟩ := h
  ⟨xs, own_of_block h1 hb, h2⟩
theorem own3.lt {base : Nat} {w : World} {v : Value} {n : Nat} {F : Nat → Value} (h : own3 base w v n F) : ∀ k, v.ownBlock = some k → base ≤ k ∧ k < w.heap.size :=
  let ⟨_, h1, _⟩ := h
  h1.lt
theorem own3.below {base : Nat} {w w' : World} {v : Value} {n : Nat} {F : Nat → Value} (hb : Below w.heap.size w w') (h : own3 base w v n F) : own3 base w' v n F :=
  h.of_block fun g hg => hb.block g (h.lt g hg).2
theorem own3.form {base : Nat} {w : World} {v : Value} {n : Nat} {F : Nat → Value} (h : own3 base w v n F) : ∃ A cap, v = .slice A n cap ∧ n ≤ cap ∧ cap ≤ 9223372036854775807 ∧ (0 < n → ∃ g, A = some ⟨g, 0, none⟩ ∧ base ≤ g ∧ g < w.heap.size) := by
  obtain ⟨xs, h1, h2⟩ := h
  rcases h1.2 with ⟨rfl, rfl⟩ | ⟨g, cap, cur, rfl, hb, hh, hnc, hcm, _⟩
  · exact ⟨none, 0, rfl, by omega, by omega, fun h => absurd h (by omega)⟩
  · exact ⟨_, cap, rfl, hnc, by unfold maxLen at hcm; exact hcm, fun _ => ⟨g, rfl, hb, (Array.getElem?_eq_some_iff.1 hh).1⟩⟩
theorem own3.cell {base : Nat} {w : World} {n cap g : Nat} {F : Nat → Value} (h : own3 base w (.slice (some ⟨g, 0, none⟩) n cap) n F) {i : Nat} (hi : i < n * 3) : w.cell? ⟨g, i, none⟩ = some (F i) := by
  obtain ⟨xs, h1, h2⟩ := h
  rw [h1.cellAt i hi, h2 i hi]
theorem own3.frozen {base : Nat} {w : World} {n cap g : Nat} {F : Nat → Value} (h : own3 base w (.slice (some ⟨g, 0, none⟩) n cap) n F) (i : Nat) : w.frozen? ⟨g, i, none⟩ = false := by
  obtain ⟨xs, h1, h2⟩ := h
  exact h1.frozenAt i
theorem own3.set {base : Nat} {w : World} {n cap g : Nat} {F : Nat → Value} (h : own3 base w (.slice (some ⟨g, 0, none⟩) n cap) n F) (j : Nat) (u : Value) :
    own3 base (w.setCell ⟨g, j, none⟩ u) (.slice (some ⟨g, 0, none⟩) n cap) n (fun i => if i = j then u else F i) := by
  obtain ⟨xs, h1, h2⟩ := h
  refine ⟨xs.set j u, (h1.stored j u).1, fun i hi => ?_⟩
  have hl : i < xs.length := by rw [h1.1]; exact hi
  rw [List.getElem?_set]
  by_cases e : j = i
  · subst e; simp [hl]
  · rw [if_neg e, h2 i hi]
    show _ = some (if i = j then u else F i)
    rw [if_neg (fun h => e h.symm)]

/-- The value v is a slice of the reviews R; it and the votes of each lie in rows of the call's own. -/
def OR (base : Nat) (w : World) (v : Value) (n : Nat) (R : Nat → Rl) : Prop :=
  ∃ S : Nat → Value, own3 base w v n (fun i => c3 (R (i / 3)).rv (S (i / 3)) (i % 3)) ∧ (∀ j, j < n → OI base w (S j) (R j).vs) ∧
    ∀ i j, i < n → j < n → i ≠ j → (S i).ownBlock = none ∨ (S i).ownBlock ≠ (S j).ownBlock
theorem OI.of_block {base : Nat} {w w' : World} {v : Value} {xs : List Int} (h : OI base w v xs) (hb : ∀ g, v.ownBlock = some g → w'.heap[g]? = w.heap[g]?) : OI base w' v xs := own_of_block h hb
theorem OR.below {base : Nat} {w w' : World} {v : Value} {n : Nat} {R : Nat → Rl} (hb : Below w.heap.size w w') (h : OR base w v n R) : OR base w' v n R := by
  obtain ⟨S, h1, h2, h3⟩ := h
  exact ⟨S, h1.below hb, fun j hj => (h2 j hj).below hb, h3⟩
theorem OR.chg {base lo hi : Nat} {w w' : World} {v : Value} {n : Nat} {R : Nat → Rl} (hc : Chg lo hi w w') (hl : hi ≤ base) (h : OR base w v n R) : OR base w' v n R := by
  obtain ⟨S, h1, h2, h3⟩ := h
  exact ⟨S, h1.of_block fun g hg => hc.block g (h1.lt g hg).2 (.inr (by have := (h1.lt g hg).1; omega)),
    fun j hj => (h2 j hj).of_block fun g hg => hc.block g (World.ownsRow.lt (h2 j hj) g hg).2 (.inr (by have := (World.ownsRow.lt (h2 j hj) g hg).1; omega)), h3⟩
theorem OR.congr {base : Nat} {w : World} {v : Value} {n : Nat} {R T : Nat → Rl} (h : OR base w v n R) (e : ∀ j, j < n → R j = T j) : OR base w v n T := by
  obtain ⟨S, h1, h2, h3⟩ := h
  exact ⟨S, h1.congr fun i hi => by rw [e (i / 3) (by omega)], fun j hj => by rw [← e j hj]; exact h2 j hj, h3⟩
theorem own3.rrs {base : Nat} {w : World} {v : Value} {n : Nat} {R : Nat → Rv} {S : Nat → Value} (h1 : own3 base w v n (fun i => c3 (R (i / 3)) (S (i / 3)) (i % 3))) (h2 : ∀ j, j < n → SI w (S j) (R j).n (R j).f) : RRs w v n R := by
  obtain ⟨A, cap, rfl, hc, hm, hA⟩ := h1.form
  refine ⟨A, cap, rfl, fun h0 => ?_, hc, hm⟩
  obtain ⟨g, rfl, _, hl⟩ := hA h0
  refine ⟨g, 0, rfl, hl, fun j hj => ⟨S j, h2 j hj, ?_, ?_, ?_⟩⟩
  · have := h1.cell (i := j * 3) (by omega)
    rw [Nat.mul_mod_left, Nat.mul_div_cancel _ (by omega)] at this
    simpa [c3] using this
  · have := h1.cell (i := j * 3 + 1) (by omega)
    rw [show (j * 3 + 1) / 3 = j by omega, show (j * 3 + 1) % 3 = 1 by omega] at this
    simpa [c3] using this
  · have := h1.cell (i := j * 3 + 2) (by omega)
    rw [show (j * 3 + 2) / 3 = j by omega, show (j * 3 + 2) % 3 = 2 by omega] at this
    simpa [c3] using this
theorem OR.rrs {base : Nat} {w : World} {v : Value} {n : Nat} {R : Nat → Rl} (h : OR base w v n R) : RRs w v n (fun j => (R j).rv) := by
  obtain ⟨S, h1, h2, _⟩ := h
  exact own3.rrs (R := fun j => (R j).rv) h1 fun j hj => (h2 j hj).wi.si
theorem OR.nil (base : Nat) (w : World) (R : Nat → Rl) : OR base w (.slice none 0 0) 0 R :=
  ⟨fun _ => .slice none 0 0, ⟨[], World.ownsRow_nil w base _ _, fun i hi => absurd hi (by omega)⟩, fun j hj => absurd hj (by omega), fun i j hi => absurd hi (by omega)⟩
theorem own3.empty {base : Nat} {w : World} (hb : base ≤ w.heap.size) (F : Nat → Value) : own3 base (w.alloc (.cells #[] 27)) (.slice (some ⟨w.heap.size, 0, none⟩) 0 0) 0 F :=
  ⟨[], World.ownsRow_made w #[] 0 hb (by decide) rfl, fun i hi => absurd hi (by omega)⟩
theorem OR.empty {base : Nat} {w : World} (hb : base ≤ w.heap.size) (R : Nat → Rl) : OR base (w.alloc (.cells #[] 27)) (.slice (some ⟨w.heap.size, 0, none⟩) 0 0) 0 R :=
  ⟨fun _ => .slice none 0 0, own3.empty hb _, fun j hj => absurd hj (by omega), fun i j hi => absurd hi (by omega)⟩

/-- Appending reviews to a row of the call's own. -/
theorem wp_app3 (w : World) {ops : Array Oper} {rest : List Oper} {o : Oper} {a : Act} {Q : Exit → Act → World → Prop} (hgd : o.guard = none) (s x : Operand)
    (ho : o.op = .call { callee := .builtin .append, args := #[s, x], argTypes := #[34, 34] })
    (base : Nat) (v : Value) (n : Nat) (F : Nat → Value) (hs : a.eval s = v) (hown : own3 base w v n F) (A : Option Addr) (m c : Nat) (G : Nat → Value) (hx : a.eval x = .slice A m c)
    (hr : Reads w w.heap.size 3 A m ((List.range (m * 3)).map G)) (h1 : ∀ i, i < m * 3 → (G i).oneCell' = true) (hlen : n + m ≤ 1099511627776) (hbase : base ≤ w.heap.size)
    (h : ∀ v' w', own3 base w' v' (n + m) (fun i => if i < n * 3 then F i else G (i - n * 3)) → Below base w w' → w.grownBy w' v.ownBlock → wpList Try.prog ops Q rest (a.put o.dst v') w') : wpList Try.prog ops Q (o :: rest) a w := by
  obtain ⟨i0, hi, hz0, hz1, hz2⟩ := info_parts info_rev
  obtain ⟨xs, ho1, ho2⟩ := hown
  refine wpList_append_any w hgd s x 34 ho base 27 i0 _ 3 40 Try.underlying34 hi hz0 hz1 hz2 rfl (by omega) v n xs hs ho1 w.heap.size A m c _ hx hr
    (fun u hu => ?_) (by unfold maxLen; omega) (by omega) hbase (fun v' w' h1 h2 _ => h v' w' ⟨_, h1, fun i hi => ?_⟩ ?_ h2)
  · obtain ⟨i, hi, rfl⟩ := List.mem_map.1 hu
    exact h1 i (List.mem_range.1 hi)
  · have hl := ho1.1
    by_cases e : i < n * 3
    · rw [List.getElem?_append_left (by omega), ho2 i e]
      show _ = some (if i < n * 3 then F i else G (i - n * 3))
      rw [if_pos e]
    · rw [List.getElem?_append_right (by omega), hl, List.getElem?_map, List.getElem?_range (by omega)]
      show _ = some (if i < n * 3 then F i else G (i - n * 3))
      rw [if_neg e]; rfl
  · exact (Below.refl base w).grown h2 hbase (fun k hk => (World.ownsRow.lt ho1 k hk).1)
end Go.Proofs.Ytcdffikambbleaa
