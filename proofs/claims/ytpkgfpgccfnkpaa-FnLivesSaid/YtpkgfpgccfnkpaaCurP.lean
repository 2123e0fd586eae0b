/- Lists of steps that are drawn. No condition but those stated. -/
import Derived.Test.YtpkgfpgccfnkpaaCurO
import Derived.Test.YtpkgfpgccfnkpaaAppA
namespace Go.Proofs.Ytpkgfpgccfnkpaa
set_option linter.unusedVariables false
set_option linter.unusedSimpArgs false
open Go.RowKit Go.Sort
def flatS (xs : List (Int × Int)) : List Value := xs.flatMap fun p => [.int .i64 p.1, .int .i64 p.2]
theorem flatS_len (xs : List (Int × Int)) : (flatS xs).length = xs.length * 2 := by
  induction xs with
  | nil => rfl
  | cons p xs ih => show (flatS xs).length + 1 + 1 = _; rw [ih]; simp; omega
theorem flatS_get (xs : List (Int × Int)) : ∀ j, j < xs.length → (flatS xs)[j * 2]? = some (.int .i64 (xs.getD j (0, 0)).1) ∧ (flatS xs)[j * 2 + 1]? = some (.int .i64 (xs.getD j (0, 0)).2) := by
  induction xs with
  | nil => intro j hj; exact absurd hj (by simp)
  | cons p xs ih =>
    intro j hj
    cases j with
    | zero => exact ⟨rfl, rfl⟩
    | succ j =>
      have := ih j (by simpa using hj)
      rw [show (j + 1) * 2 = j * 2 + 1 + 1 by omega]
      exact this
theorem flatS_app (xs : List (Int × Int)) (p : Int × Int) : flatS (xs ++ [p]) = flatS xs ++ [.int .i64 p.1, .int .i64 p.2] := by simp [flatS]
/-- The value v is a slice of the steps xs, in a row of the call's own. -/
def OS (base : Nat) (w : World) (v : Value) (xs : List (Int × Int)) : Prop := w.ownsRow base 41 2 v xs.length (flatS xs)
theorem own_blk {w w' : World} {base : Nat} {e : TypeId} {size : Nat} {v : Value} {n : Nat} {xs : List Value} (h : w.ownsRow base e size v n xs) (hb : ∀ g, v.ownBlock = some g → w'.heap[g]? = w.heap[g]?) : w'.ownsRow base e size v n xs := by
  refine ⟨h.1, ?_⟩
  rcases h.2 with h0 | ⟨g, cap, cur, rfl, h1, h2, h3⟩
  · exact .inl h0
  · exact .inr ⟨g, cap, cur, rfl, h1, (hb g rfl).trans h2, h3⟩
theorem OS.lt {base : Nat} {w : World} {v : Value} {xs : List (Int × Int)} (h : OS base w v xs) : ∀ k, v.ownBlock = some k → base ≤ k ∧ k < w.heap.size := World.ownsRow.lt h
theorem OS.below {base : Nat} {w w' : World} {v : Value} {xs : List (Int × Int)} (hb : Below w.heap.size w w') (h : OS base w v xs) : OS base w' v xs := own_blk h fun g hg => hb.block g (h.lt g hg).2
theorem OS.chg {base lo hi : Nat} {w w' : World} {v : Value} {xs : List (Int × Int)} (hc : Chg lo hi w w') (hl : hi ≤ base) (h : OS base w v xs) : OS base w' v xs :=
  own_blk h fun g hg => hc.block g (h.lt g hg).2 (.inr (by have := (h.lt g hg).1; omega))
/-- A row of a life is not the row of the steps. -/
theorem OS.ne {base : Nat} {w : World} {v : Value} {xs : List (Int × Int)} (h : OS base w v xs) {g : Nat} {F : Nat → Value} (hr : w.rowIs g 25 6 F) : v.ownBlock ≠ some g := by
  intro hg
  rcases h.2 with ⟨rfl, _⟩ | ⟨g1, cap, cur, rfl, _, hh, _⟩
  · cases hg
  obtain ⟨c, hc, _⟩ := hr
  simp only [Value.ownBlock, Option.some.injEq] at hg
  subst hg
  rw [hh] at hc
  injection hc with hc
  injection hc with _ e
  exact absurd e (by decide)
theorem OS.setFar {base : Nat} {w : World} {v : Value} {xs : List (Int × Int)} (h : OS base w v xs) {p : Addr} (hp : v.ownBlock ≠ some p.block) (u : Value) : OS base (w.setCell p u) v xs :=
  own_blk h fun g hg => Below.heap_setCell _ _ _ _ (fun e => hp (by rw [hg, e]))
theorem OS.empty {base : Nat} {w : World} (hb : base ≤ w.heap.size) : OS base (w.alloc (.cells #[] 41)) (.slice (some ⟨w.heap.size, 0, none⟩) 0 0) [] :=
  World.ownsRow_made w #[] 0 hb (by decide) rfl
theorem OS.ss {base : Nat} {w : World} {v : Value} {xs : List (Int × Int)} (h : OS base w v xs) : SS w v xs.length (fun j => (xs.getD j (0, 0)).1) (fun j => (xs.getD j (0, 0)).2) := by
  have h0 := h
  rcases h.2 with ⟨rfl, hx⟩ | ⟨g, cap, cur, rfl, hb, hh, hnc, hcm, _⟩
  · have : xs.length = 0 := by have := flatS_len xs; rw [hx] at this; simp at this; omega
    exact ⟨none, 0, by rw [this], fun h => absurd h (by omega), by omega, by omega⟩
  · refine ⟨_, cap, rfl, fun _ => ⟨g, 0, rfl, (Array.getElem?_eq_some_iff.1 hh).1, fun j hj => ?_⟩, hnc, by unfold maxLen at hcm; exact hcm⟩
    obtain ⟨e1, e2⟩ := flatS_get xs j hj
    refine ⟨?_, ?_⟩
    · rw [Nat.zero_add, h0.cellAt (j * 2) (by omega)]; exact e1
    · rw [Nat.zero_add, h0.cellAt (j * 2 + 1) (by omega)]; exact e2
theorem reads_two (w : World) (k x : Int) (T : TypeId) : Reads (w.alloc (.cells #[.int .i64 k, .int .i64 x] T)) (w.alloc (.cells #[.int .i64 k, .int .i64 x] T)).heap.size 2 (some ⟨w.heap.size, 0, none⟩) 1 [.int .i64 k, .int .i64 x] := by
  refine ⟨rfl, fun _ => ⟨_, rfl, by simp, fun j u hu => ?_⟩⟩
  have e : (Addr.add ⟨w.heap.size, 0, none⟩ j) = ⟨w.heap.size, j, none⟩ := by
    unfold Addr.add
    by_cases e : j = 0
    · subst e; rfl
    · rw [if_neg e, Nat.zero_add]
  rw [e]
  exact cell_new _ _ _ _ _ (by rw [List.getElem?_toArray]; exact hu)
/-- Appending a step to the steps of the call's own. -/
theorem wp_appS (w : World) {ops : Array Oper} {rest : List Oper} {o : Oper} {a : Act} {Q : Exit → Act → World → Prop} (hgd : o.guard = none) (s x : Operand)
    (ho : o.op = .call { callee := .builtin .append, args := #[s, x], argTypes := #[48, 48] })
    (base : Nat) (v : Value) (xs : List (Int × Int)) (hs : a.eval s = v) (hown : OS base w v xs) (A : Option Addr) (c : Nat) (k y : Int) (N : Nat) (hx : a.eval x = .slice A 1 c)
    (hr : Reads w N 2 A 1 [.int .i64 k, .int .i64 y]) (hlen : xs.length + 1 ≤ 1099511627776) (hbase : base ≤ w.heap.size)
    (h : ∀ v' w', OS base w' v' (xs ++ [(k, y)]) → w.grownBy w' v.ownBlock → wpList Try.prog ops Q rest (a.put o.dst v') w') : wpList Try.prog ops Q (o :: rest) a w := by
  obtain ⟨i0, hi, hz0, hz1, hz2⟩ := info_parts info_step
  refine wpList_append_any w hgd s x 48 ho base 41 i0 _ 2 16 Try.underlying48 hi hz0 hz1 hz2 rfl (by omega) v xs.length (flatS xs) hs hown N A 1 c _ hx hr
    (fun u hu => ?_) (by unfold maxLen; omega) (by omega) hbase (fun v' w' h1 h2 _ => h v' w' ?_ h2)
  · simp at hu; rcases hu with rfl | rfl <;> rfl
  · unfold OS; rw [List.length_append, flatS_app]; exact h1
theorem row2_alloc2 (w : World) (t : TypeId) (k v : Int) : (w.alloc (.cells #[.int .i64 k, .int .i64 v] t)).rowIs w.heap.size t 2 (c2 k v) := row2_alloc w t k v
/-- What the drawing of a list of steps keeps. -/
structure RS (B m g5 g7 : Nat) (w W : World) (L0 L : Lf) (v : Value) (xs : List (Int × Int)) : Prop where
  cu : Cu W B m
  be : Below w.heap.size w W
  rA : W.rowIs w.heap.size 25 6 (c6 zeroL)
  r5 : W.rowIs g5 25 6 (c6 L0)
  r7 : W.rowIs g7 25 6 (c6 L)
  os : OS (B + 1) W v xs
  i : ∀ p ∈ xs, I64 p.2
  hB : w.heap.size < B
  h5 : B < g5
  h7 : g5 < g7
theorem RS.chg {B m m' g5 g7 : Nat} {w W W' : World} {L0 L : Lf} {v : Value} {xs : List (Int × Int)} (h : RS B m g5 g7 w W L0 L v xs) (hc : Chg B (B + 1) W W') (hcu : Cu W' B m') : RS B m' g5 g7 w W' L0 L v xs :=
  ⟨hcu, bel_chg hc (Nat.le_of_lt h.hB) h.be, row_chg h.rA hc (.inl h.hB), row_chg h.r5 hc (.inr h.h5), row_chg h.r7 hc (.inr (Nat.lt_trans h.h5 h.h7)), h.os.chg hc (Nat.le_refl _), h.i, h.hB, h.h5, h.h7⟩
theorem RS.below {B m g5 g7 : Nat} {w W W' : World} {L0 L : Lf} {v : Value} {xs : List (Int × Int)} (h : RS B m g5 g7 w W L0 L v xs) (hb : Below W.heap.size W W') : RS B m g5 g7 w W' L0 L v xs :=
  h.chg (Chg.of_below hb) (h.cu.below hb)
theorem RS.alloc {B m g5 g7 : Nat} {w W : World} {L0 L : Lf} {v : Value} {xs : List (Int × Int)} (h : RS B m g5 g7 w W L0 L v xs) (o : Obj) : RS B m g5 g7 w (W.alloc o) L0 L v xs := h.below ((Below.refl _ _).alloc (Nat.le_refl _) o)
theorem RS.mono {B m m' g5 g7 : Nat} {w W : World} {L0 L : Lf} {v : Value} {xs : List (Int × Int)} (h : RS B m g5 g7 w W L0 L v xs) (hm : m ≤ m') : RS B m' g5 g7 w W L0 L v xs :=
  ⟨h.cu.mono hm, h.be, h.rA, h.r5, h.r7, h.os, h.i, h.hB, h.h5, h.h7⟩
theorem RS.app {B m g5 g7 : Nat} {w W W' : World} {L0 L : Lf} {v v' : Value} {xs : List (Int × Int)} {p : Int × Int} (h : RS B m g5 g7 w W L0 L v xs) (ho : OS (B + 1) W' v' (xs ++ [p])) (hg : W.grownBy W' v.ownBlock) (hp : I64 p.2) :
    RS B m g5 g7 w W' L0 L v' (xs ++ [p]) := by
  have hlt := h.os.lt
  have hc : Chg (B + 1) W.heap.size W W' := ⟨hg.os, hg.tape, hg.output, hg.size, fun k hk hr => hg.block k hk (fun e => by have := hlt k e.symm; omega)⟩
  refine ⟨h.cu.chg hc (by omega), h.be.grown hg h.be.size (fun k hk => by have := hlt k hk; have := h.hB; omega), h.rA.of_block (hg.block _ h.rA.lt (fun e => h.os.ne h.rA e.symm)), h.r5.of_block (hg.block _ h.r5.lt (fun e => h.os.ne h.r5 e.symm)),
    h.r7.of_block (hg.block _ h.r7.lt (fun e => h.os.ne h.r7 e.symm)), ho, fun q hq => ?_, h.hB, h.h5, h.h7⟩
  rcases List.mem_append.1 hq with hq | hq
  · exact h.i q hq
  · rw [List.mem_singleton.1 hq]; exact hp
theorem RS.set7 {B m g5 g7 : Nat} {w W : World} {L0 L : Lf} {v : Value} {xs : List (Int × Int)} (h : RS B m g5 g7 w W L0 L v xs) (l : Lf) :
    RS B m g5 g7 w ((((((W.setCell ⟨g7, 0, none⟩ (.int .i64 l.day)).setCell ⟨g7, 1, none⟩ (.int .i64 l.state)).setCell ⟨g7, 2, none⟩ (.int .i64 l.act)).setCell ⟨g7, 3, none⟩ (.int .i64 l.period)).setCell ⟨g7, 4, none⟩ (.int .i64 l.closed)).setCell ⟨g7, 5, none⟩ (.int .i64 l.holds)) L0 l v xs := by
  have hB := h.hB
  have h5 := h.h5
  have h7 := h.h7
  have hw : w.heap.size ≤ g7 := by omega
  have hne := h.os.ne h.r7
  exact ⟨(((((h.cu.setFar (p := ⟨g7, 0, none⟩) (by simp; omega) _).setFar (p := ⟨g7, 1, none⟩) (by simp; omega) _).setFar (p := ⟨g7, 2, none⟩) (by simp; omega) _).setFar (p := ⟨g7, 3, none⟩) (by simp; omega) _).setFar (p := ⟨g7, 4, none⟩) (by simp; omega) _).setFar (p := ⟨g7, 5, none⟩) (by simp; omega) _,
    (((((h.be.setCell (p := ⟨g7, 0, none⟩) hw _).setCell (p := ⟨g7, 1, none⟩) hw _).setCell (p := ⟨g7, 2, none⟩) hw _).setCell (p := ⟨g7, 3, none⟩) hw _).setCell (p := ⟨g7, 4, none⟩) hw _).setCell (p := ⟨g7, 5, none⟩) hw _,
    (((((h.rA.setOther (a := ⟨g7, 0, none⟩) (by simp; omega) _).setOther (a := ⟨g7, 1, none⟩) (by simp; omega) _).setOther (a := ⟨g7, 2, none⟩) (by simp; omega) _).setOther (a := ⟨g7, 3, none⟩) (by simp; omega) _).setOther (a := ⟨g7, 4, none⟩) (by simp; omega) _).setOther (a := ⟨g7, 5, none⟩) (by simp; omega) _,
    (((((h.r5.setOther (a := ⟨g7, 0, none⟩) (by simp; omega) _).setOther (a := ⟨g7, 1, none⟩) (by simp; omega) _).setOther (a := ⟨g7, 2, none⟩) (by simp; omega) _).setOther (a := ⟨g7, 3, none⟩) (by simp; omega) _).setOther (a := ⟨g7, 4, none⟩) (by simp; omega) _).setOther (a := ⟨g7, 5, none⟩) (by simp; omega) _,
    row6_set l h.r7, (((((h.os.setFar (p := ⟨g7, 0, none⟩) hne _).setFar (p := ⟨g7, 1, none⟩) hne _).setFar (p := ⟨g7, 2, none⟩) hne _).setFar (p := ⟨g7, 3, none⟩) hne _).setFar (p := ⟨g7, 4, none⟩) hne _).setFar (p := ⟨g7, 5, none⟩) hne _, h.i, h.hB, h.h5, h.h7⟩
def lenV : Value → Nat
  | .slice _ n _ => n
  | _ => 0
theorem OS.form {base : Nat} {w : World} {v : Value} {xs : List (Int × Int)} (h : OS base w v xs) : ∃ A cap, v = .slice A xs.length cap := by
  obtain ⟨A, cap, e, _⟩ := h.ss
  exact ⟨A, cap, e⟩
theorem mem_getD {xs : List (Int × Int)} (h : ∀ p ∈ xs, I64 p.2) : ∀ j, j < xs.length → I64 (xs.getD j (0, 0)).2 := fun j hj => by
  rw [List.getD_eq_getElem?_getD, List.getElem?_eq_getElem hj]
  exact h _ (List.getElem_mem _)
end Go.Proofs.Ytpkgfpgccfnkpaa
