/- Words and dictionaries that are drawn. No condition but those stated. -/
import Derived.Test.YtnhkejbgcjebmaaDoorCurG
import Derived.Test.YtnhkejbgcjebmaaDoorClueJ
import Derived.Maps.AppendAt
import Derived.Laws.BytesArg
import Derived.IntWalk
namespace Go.Proofs.YtnhkejbgcjebmaaDoor
set_option linter.unusedVariables false
set_option linter.unusedSimpArgs false
open Go.RowKit Go.Sort
theorem ownT_of_block {w w' : World} {base : Nat} {e : TypeId} {size : Nat} {v : Value} {n : Nat} {xs : List Value} (h : w.ownsRow base e size v n xs) (hb : ∀ g, v.ownBlock = some g → w'.heap[g]? = w.heap[g]?) : w'.ownsRow base e size v n xs := by
  refine ⟨h.1, ?_⟩
  rcases h.2 with h2 | ⟨g, cap, cur, rfl, hbs, hh, r⟩
  · exact .inl h2
  · exact .inr ⟨g, cap, cur, rfl, hbs, (hb g rfl).trans hh, r⟩
theorem OT.ofB {base : Nat} {w w' : World} {v : Value} {xs : List ByteArray} (h : OT base w v xs) (hb : ∀ g, v.ownBlock = some g → w'.heap[g]? = w.heap[g]?) : OT base w' v xs := ownT_of_block h hb
theorem OT.chg {base lo hi : Nat} {w w' : World} {v : Value} {xs : List ByteArray} (hc : Chg lo hi w w') (hl : hi ≤ base) (h : OT base w v xs) : OT base w' v xs :=
  h.ofB fun g hg => hc.block g (World.ownsRow.lt h g hg).2 (.inr (by have := (World.ownsRow.lt h g hg).1; omega))
theorem OT.form {base : Nat} {w : World} {v : Value} {xs : List ByteArray} (h : OT base w v xs) : ∃ A cap, v = .slice A xs.length cap := by
  obtain ⟨A, cap, e, _⟩ := h.wt
  exact ⟨A, cap, e⟩
theorem wp_appT2 (w : World) {ops : Array Oper} {rest : List Oper} {o : Oper} {a : Act} {Q : Exit → Act → World → Prop} (hgd : o.guard = none) (s x : Operand)
    (ho : o.op = .call { callee := .builtin .append, args := #[s, x], argTypes := #[36, 36] })
    (base : Nat) (v : Value) (xs : List ByteArray) (hs : a.eval s = v) (hown : OT base w v xs) (g : Nat) (y : ByteArray) (hx : a.eval x = .slice (some ⟨g, 0, none⟩) 1 1) (hc : w.cell? ⟨g, 0, none⟩ = some (.string y))
    (hlen : xs.length ≤ 1099511627776) (hbase : base ≤ w.heap.size)
    (h : ∀ v' w', OT base w' v' (xs ++ [y]) → w.grownBy w' v.ownBlock → (v'.ownBlock = v.ownBlock ∨ v'.ownBlock = some w.heap.size) → wpList Tryd.prog ops Q rest (a.put o.dst v') w') : wpList Tryd.prog ops Q (o :: rest) a w := by
  obtain ⟨i0, hi, hz0, hz1, hz2⟩ := info_parts info_string
  refine wpList_append_own_at w hgd s x 36 ho base 9 i0 (.string ByteArray.empty) 1 16 Tryd.underlying36 hi hz0 hz1 hz2 rfl (by omega) v xs.length (xs.map Value.string) hs hown ⟨g, 0, none⟩ 1 1 [.string y] hx rfl
    (fun j u hu => ?_) (fun u hu => ?_) (by unfold maxLen; omega) (by omega) hbase (fun v' w' h1 h2 _ h4 => h v' w' ?_ h2 h4)
  · match j, hu with
    | 0, hu => simp only [List.getElem?_cons_zero, Option.some.injEq] at hu; subst hu; simpa [Addr.add] using hc
    | j + 1, hu => simp at hu
  · simp only [List.mem_singleton] at hu; subst hu; rfl
  · unfold OT; simpa using h1
theorem C_ofL (B m : Nat) (cs : Array Value) (n cap g : Nat) (w : World) (T : TypeId) (hg : w.heap.size = g) (h : Cu w B m) (hm : m ≤ 1099511627776) (h1 : 1 ≤ n) (hn : n ≤ cs.size) (h2 : n ≤ 200)
    (p : ByteArray → Bool) (hall : cs.toList.all (fun v => isT v && p (unT v)) = true) :
    Calls Tryd.prog 78 #[.pointer (some ⟨B, 0, none⟩), .slice (some ⟨g, 0, none⟩) n cap] (w.alloc (.cells cs T)) fun e w' => ∃ x : ByteArray, e = .returned (.string x) ∧ p x = true ∧ Cu w' B (m + 1) ∧ w.grownBy w' (some B) := by
  subst hg
  have hl := h.lt
  refine (C_ofR B m cs n cap _ _ T (row_lit w cs T) (by omega) (h.alloc _) hm h1 hn h2 p hall).mono ?_
  rintro e w' ⟨x, rfl, hp, hc, hb⟩
  exact ⟨x, rfl, hp, hc, ((Chg.of_below (lo := B) (hi := B + 1) ((Below.refl _ _).alloc (Nat.le_refl _) _)).trans (Chg.of_grown hb)).grown⟩
theorem C_amongLc (B m : Nat) (cs : Array Value) (n cap g : Nat) (w : World) (T : TypeId) (hg : w.heap.size = g) (h : Cu w B m) (hm : m ≤ 1099511627776) (h1 : 1 ≤ n) (hn : n ≤ cs.size) (h2 : n ≤ 200)
    (p : Int → Bool) (hall : cs.toList.all (fun v => isI v && p (unI v)) = true) :
    Calls Tryd.prog 76 #[.pointer (some ⟨B, 0, none⟩), .slice (some ⟨g, 0, none⟩) n cap] (w.alloc (.cells cs T)) fun e w' => ∃ x : Int, e = .returned (.int .i64 x) ∧ p x = true ∧ Cu w' B (m + 1) ∧ w.grownBy w' (some B) := by
  subst hg
  have hl := h.lt
  refine (C_amongR B m cs n cap _ _ T (row_lit w cs T) (by omega) (h.alloc _) hm h1 hn h2 p hall).mono ?_
  rintro e w' ⟨x, rfl, hp, hc, hb⟩
  exact ⟨x, rfl, hp, hc, ((Chg.of_below (lo := B) (hi := B + 1) ((Below.refl _ _).alloc (Nat.le_refl _) _)).trans (Chg.of_grown hb)).grown⟩
/-- A short text. -/
def sh20 (x : ByteArray) : Bool := decide (x.size ≤ 20)
theorem sh20_le {x : ByteArray} (h : sh20 x = true) : x.size ≤ 20 := by simpa [sh20] using h
/-- What the drawing of a list of words keeps. -/
structure LT (B m : Nat) (w W : World) (v : Value) (xs : List ByteArray) : Prop where
  cu : Cu W B m
  ch : Chg B (B + 1) w W
  ot : OT w.heap.size W v xs
  lt : B < w.heap.size
  sz : ∀ x ∈ xs, sh20 x = true
theorem LT.step {B m m' : Nat} {w W W' : World} {v : Value} {xs : List ByteArray} (h : LT B m w W v xs) (hc : Chg B (B + 1) W W') (hcu : Cu W' B m') : LT B m' w W' v xs := ⟨hcu, h.ch.trans hc, h.ot.chg hc h.lt, h.lt, h.sz⟩
theorem LT.mono {B m m' : Nat} {w W : World} {v : Value} {xs : List ByteArray} (h : LT B m w W v xs) (hm : m ≤ m') : LT B m' w W v xs := ⟨h.cu.mono hm, h.ch, h.ot, h.lt, h.sz⟩
theorem LT.alloc {B m : Nat} {w W : World} {v : Value} {xs : List ByteArray} (h : LT B m w W v xs) (o : Obj) : LT B m w (W.alloc o) v xs := h.step ((Chg.refl _ _ _).alloc o) (h.cu.alloc o)
theorem LT.grow {B m : Nat} {w W W' : World} {v v' : Value} {xs : List ByteArray} {y : ByteArray} (h : LT B m w W v xs) (hg : W.grownBy W' v.ownBlock) (ho : OT w.heap.size W' v' (xs ++ [y])) (hy : sh20 y = true) : LT B m w W' v' (xs ++ [y]) := by
  have hlt := World.ownsRow.lt h.ot
  have h3 := h.lt
  have hc : Chg w.heap.size (max w.heap.size W.heap.size) W W' := ⟨hg.os, hg.tape, hg.output, hg.size, fun k hk hr => hg.block k hk (fun e => by have := (hlt k e.symm).1; omega)⟩
  refine ⟨h.cu.chg hc h3, ⟨hc.os.trans h.ch.os, hc.tape.trans h.ch.tape, hc.output.trans h.ch.output, Nat.le_trans h.ch.size hc.size, fun k hk hr => ?_⟩, ho, h3, fun x hx => ?_⟩
  · exact (hc.block k (Nat.lt_of_lt_of_le hk h.ch.size) (.inl hk)).trans (h.ch.block k hk hr)
  · rcases List.mem_append.1 hx with hx | hx
    · exact h.sz x hx
    · rw [List.mem_singleton.1 hx]; exact hy
/-- The row of words that a list is drawn from, apart from the list. -/
def RowW (cs : Array Value) (B : Nat) (W : World) (v : Value) (g : Nat) : Prop := W.rowIs g 9 cs.size (fun j => cs.getD j undef) ∧ (∀ q, v.ownBlock = some q → q ≠ g) ∧ B < g
theorem RowW.step {cs : Array Value} {B : Nat} {W W' : World} {v : Value} {g : Nat} (h : RowW cs B W v g) (hc : Chg B (B + 1) W W') : RowW cs B W' v g := ⟨row_chg h.1 hc (.inr h.2.2), h.2⟩
theorem RowW.alloc {cs : Array Value} {B : Nat} {W : World} {v : Value} {g : Nat} (h : RowW cs B W v g) (o : Obj) : RowW cs B (W.alloc o) v g := ⟨row_alloc h.1 o, h.2⟩
theorem RowW.grow {cs : Array Value} {B : Nat} {W W' : World} {v v' : Value} {g : Nat} (h : RowW cs B W v g) (hg : W.grownBy W' v.ownBlock) (hv : v'.ownBlock = v.ownBlock ∨ v'.ownBlock = some W.heap.size) : RowW cs B W' v' g := by
  have hl := h.1.lt
  refine ⟨h.1.of_block (hg.block g hl (fun e => h.2.1 g e.symm rfl)), fun q hq => ?_, h.2.2⟩
  rcases hv with e | e
  · exact h.2.1 q (e ▸ hq)
  · rw [e] at hq; injection hq with hq; omega
theorem RowW.word {cs : Array Value} {B : Nat} {W : World} {v : Value} {g j : Nat} (h : RowW cs B W v g) (hall : cs.toList.all (fun v => isT v && sh20 (unT v)) = true) (hj : j < cs.size) : ∃ y, W.cell? ⟨g, j, none⟩ = some (.string y) ∧ sh20 y = true := by
  have hq := lit_get hall hj
  simp only [Bool.and_eq_true] at hq
  refine ⟨unT (cs.getD j undef), ?_, hq.2⟩
  rw [h.1.cell (i := j) hj]
  exact congrArg some (isT_un hq.1)
theorem conv2 (w : World) (b c : Int) : (convert 56 9 (.slice (some ⟨w.heap.size, 0, none⟩) 2 2)).run Tryd.prog (w.alloc (.cells #[.int .u8 b, .int .u8 c] 5)) = .ok (.string (strOfNums [b, c])) (w.alloc (.cells #[.int .u8 b, .int .u8 c] 5)) :=
  run_convert_bytes_arg _ 56 5 Tryd.underlying56 Tryd.underlying5 _ 0 2 2 [b, c] rfl (fun i hi => by
    match i, hi with
    | 0, _ => simp
    | 1, _ => simp
    | n + 2, h => exact absurd h (by omega)) 9 Tryd.underlying9
theorem str2_size (b c : Int) : (strOfNums [b, c]).size = 2 := rfl
end Go.Proofs.YtnhkejbgcjebmaaDoor
