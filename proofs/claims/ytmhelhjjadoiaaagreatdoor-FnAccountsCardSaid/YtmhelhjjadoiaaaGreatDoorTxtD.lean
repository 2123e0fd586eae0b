/- Slices of texts that a call owns, and that may be written. No condition but those stated. -/
import Derived.Test.YtmhelhjjadoiaaaGreatDoorTxtB
import Derived.Test.YtmhelhjjadoiaaaGreatDoorAppA
import Derived.Lib.LazyBuf
import Derived.Lib.BufferMore
import Derived.Lib.SliceRun
namespace Go.Proofs.YtmhelhjjadoiaaaGreatDoor
set_option linter.unusedVariables false
set_option linter.unusedSimpArgs false
open Go.RowKit Go.Sort

def atT (xs : List ByteArray) (j : Nat) : ByteArray := xs.getD j ByteArray.empty
theorem atT_lt {xs : List ByteArray} {j : Nat} (h : j < xs.length) : xs[j]? = some (atT xs j) := by
  unfold atT; rw [List.getD_eq_getElem?_getD, List.getElem?_eq_getElem h]; rfl
theorem atT_map {xs : List ByteArray} {j : Nat} (h : j < xs.length) : (xs.map Value.string)[j]? = some (.string (atT xs j)) := by
  rw [List.getElem?_map, atT_lt h]; rfl
def lstT (n : Nat) (f : Nat → ByteArray) : List ByteArray := (List.range n).map f
theorem lstT_length (n : Nat) (f : Nat → ByteArray) : (lstT n f).length = n := by simp [lstT]
theorem atT_lst {n j : Nat} (f : Nat → ByteArray) (h : j < n) : atT (lstT n f) j = f j := by
  unfold atT lstT; rw [List.getD_eq_getElem?_getD, List.getElem?_map, List.getElem?_range h]; rfl
theorem TI.reads {w : World} {A : Option Addr} {n cap : Nat} {f : Nat → ByteArray} (h : TI w (.slice A n cap) n f) : Reads w w.heap.size 1 A n ((lstT n f).map Value.string) := by
  obtain ⟨A', cap', e, hr, _, _⟩ := h
  cases e
  refine ⟨by simp [lstT], fun h0 => ?_⟩
  obtain ⟨b, off, rfl, hb, hc⟩ := hr h0
  refine ⟨_, rfl, hb, fun j u hu => ?_⟩
  have hj : j < n := by have := (List.getElem?_eq_some_iff.1 hu).1; simpa [lstT] using this
  rw [List.getElem?_map, show (lstT n f)[j]? = some (f j) by unfold lstT; rw [List.getElem?_map, List.getElem?_range hj]; rfl] at hu
  simp only [Option.map_some, Option.some.injEq] at hu
  subst hu
  have := hc j hj
  unfold Addr.add
  by_cases e : j = 0
  · subst e; simpa using this
  · rw [if_neg e]; exact this

/-- The value v is a slice of the n texts f in a block from lo on and below hi; it may be written. -/
def WT (lo hi : Nat) (w : World) (v : Value) (n : Nat) (f : Nat → ByteArray) : Prop :=
  ∃ A cap, v = .slice A n cap ∧ (0 < n → ∃ b off, A = some ⟨b, off, none⟩ ∧ lo ≤ b ∧ b < hi ∧ b < w.heap.size ∧ ∀ j, j < n → w.cell? ⟨b, off + j, none⟩ = some (.string (f j)) ∧ w.frozen? ⟨b, off + j, none⟩ = false) ∧ n ≤ cap ∧ cap ≤ 9223372036854775807
theorem WT.ti {lo hi : Nat} {w : World} {v : Value} {n : Nat} {f : Nat → ByteArray} (h : WT lo hi w v n f) : TI w v n f := by
  obtain ⟨A, cap, rfl, hr, hc, hm⟩ := h
  refine ⟨A, cap, rfl, fun h0 => ?_, hc, hm⟩
  obtain ⟨b, off, e, _, _, hl, hcell⟩ := hr h0
  exact ⟨b, off, e, hl, fun j hj => (hcell j hj).1⟩
theorem WT.chg {lo hi lo' hi' : Nat} {w w' : World} {v : Value} {n : Nat} {f : Nat → ByteArray} (hc : Chg lo' hi' w w') (hd : hi ≤ lo' ∨ hi' ≤ lo) (h : WT lo hi w v n f) : WT lo hi w' v n f := by
  obtain ⟨A, cap, rfl, hr, h2⟩ := h
  refine ⟨A, cap, rfl, fun h0 => ?_, h2⟩
  obtain ⟨b, off, e, h3, h4, hl, hcell⟩ := hr h0
  have hb := hc.block b hl (by omega)
  exact ⟨b, off, e, h3, h4, Nat.lt_of_lt_of_le hl hc.size, fun j hj => ⟨(World.cell?_of_block (w := w) (a := ⟨b, off + j, none⟩) hb).trans (hcell j hj).1, (World.frozen?_of_block (w := w) (a := ⟨b, off + j, none⟩) hb).trans (hcell j hj).2⟩⟩
theorem WT.below {lo hi : Nat} {w w' : World} {v : Value} {n : Nat} {f : Nat → ByteArray} (hb : Below w.heap.size w w') (h : WT lo hi w v n f) : WT lo hi w' v n f :=
  h.chg (lo' := hi) (hi' := hi) (Chg.of_below hb) (.inl (Nat.le_refl _))
theorem WT.mono {lo hi lo' hi' : Nat} {w : World} {v : Value} {n : Nat} {f : Nat → ByteArray} (h : WT lo hi w v n f) (h1 : lo' ≤ lo) (h2 : hi ≤ hi') : WT lo' hi' w v n f := by
  obtain ⟨A, cap, rfl, hr, h3⟩ := h
  refine ⟨A, cap, rfl, fun h0 => ?_, h3⟩
  obtain ⟨b, off, e, h4, h5, h6⟩ := hr h0
  exact ⟨b, off, e, by omega, by omega, h6⟩
theorem WT.congr {lo hi : Nat} {w : World} {v : Value} {n : Nat} {f g : Nat → ByteArray} (h : WT lo hi w v n f) (hfg : ∀ j, j < n → f j = g j) : WT lo hi w v n g := by
  obtain ⟨A, cap, rfl, hr, h2⟩ := h
  refine ⟨A, cap, rfl, fun h0 => ?_, h2⟩
  obtain ⟨b, off, e, h3, h4, h5, hc⟩ := hr h0
  exact ⟨b, off, e, h3, h4, h5, fun j hj => ⟨(hc j hj).1.trans (by rw [hfg j hj]), (hc j hj).2⟩⟩
theorem FT.wt {lo : Nat} {w : World} {v : Value} {n : Nat} {f : Nat → ByteArray} (h : FT lo w v n f) : WT lo w.heap.size w v n f := by
  obtain ⟨g, rfl, hl, hn, hr⟩ := h
  exact ⟨_, _, rfl, fun h0 => ⟨g, 0, rfl, hl, hr.lt, hr.lt, fun j hj => by rw [Nat.zero_add]; exact ⟨hr.cell hj, hr.frozen j⟩⟩, Nat.le_refl _, by omega⟩

/-- The value v is a slice of the call's own, in blocks from base on, that holds the texts xs. -/
def OT (base : Nat) (w : World) (v : Value) (xs : List ByteArray) : Prop := w.ownsRow base 9 1 v xs.length (xs.map Value.string)
theorem OT.nil (base : Nat) (w : World) : OT base w (.slice none 0 0) [] := World.ownsRow_nil w base _ _
theorem OT.empty {base : Nat} {w : World} (hb : base ≤ w.heap.size) : OT base (w.alloc (.cells #[] 9)) (.slice (some ⟨w.heap.size, 0, none⟩) 0 0) [] :=
  World.ownsRow_made w #[] 0 hb (by decide) rfl
theorem OT.below {base : Nat} {w w' : World} {v : Value} {xs : List ByteArray} (hb : Below w.heap.size w w') (h : OT base w v xs) : OT base w' v xs :=
  World.ownsRow.kept h (row := none) ⟨hb.os, hb.tape, hb.output, hb.size, fun k hk _ => hb.block k hk⟩ (by cases h0 : v.ownBlock with | none => exact .inl rfl | some k => exact .inr (by simp))
theorem OT.alloc {base : Nat} {w : World} {v : Value} {xs : List ByteArray} (o : Obj) (h : OT base w v xs) : OT base (w.alloc o) v xs := World.ownsRow.alloc h o
theorem OT.wt {base : Nat} {w : World} {v : Value} {xs : List ByteArray} (h : OT base w v xs) : WT base w.heap.size w v xs.length (atT xs) := by
  unfold OT at h
  rcases h.2 with ⟨rfl, h0⟩ | ⟨g, cap, cur, rfl, hb, hh, hnc, hcm, hsz, htk⟩
  · exact ⟨none, 0, by rw [h0], fun h1 => absurd h1 (by omega), by omega, by omega⟩
  · have hg : g < w.heap.size := (Array.getElem?_eq_some_iff.1 hh).1
    refine ⟨_, _, rfl, fun _ => ⟨g, 0, rfl, hb, hg, hg, fun j hj => ⟨?_, ?_⟩⟩, hnc, by unfold maxLen at hcm; exact hcm⟩
    · have := h.cells (g := g) rfl j (.string (atT xs j)) (atT_map hj)
      rw [Nat.zero_add]
      unfold Addr.add at this
      by_cases e : j = 0
      · subst e; simpa using this
      · rw [if_neg e] at this; simpa using this
    · simp [World.frozen?, hh]
theorem wp_appT1 (w : World) {ops : Array Oper} {rest : List Oper} {o : Oper} {a : Act} {Q : Exit → Act → World → Prop} (hgd : o.guard = none) (s x : Operand)
    (ho : o.op = .call { callee := .builtin .append, args := #[s, x], argTypes := #[52, 52] })
    (base : Nat) (v : Value) (xs : List ByteArray) (hs : a.eval s = v) (hown : OT base w v xs) (g : Nat) (y : ByteArray) (hx : a.eval x = .slice (some ⟨g, 0, none⟩) 1 1) (hc : w.cell? ⟨g, 0, none⟩ = some (.string y))
    (hlen : xs.length ≤ 1099511627776) (hbase : base ≤ w.heap.size)
    (h : ∀ v' w', OT base w' v' (xs ++ [y]) → Below base w w' → wpList Tryz.prog ops Q rest (a.put o.dst v') w') : wpList Tryz.prog ops Q (o :: rest) a w := by
  obtain ⟨i0, hi, hz0, hz1, hz2⟩ := info_parts info_string
  refine wpList_append_own w hgd s x 52 ho base 9 i0 (.string ByteArray.empty) 1 16 Tryz.underlying52 hi hz0 hz1 hz2 rfl (by omega) v xs.length (xs.map Value.string) hs hown ⟨g, 0, none⟩ 1 1 [.string y] hx rfl
    (fun j u hu => ?_) (fun u hu => ?_) (by unfold maxLen; omega) (by omega) hbase (fun v' w' h1 h2 h3 => h v' w' ?_ ?_)
  · match j, hu with
    | 0, hu => simp only [List.getElem?_cons_zero, Option.some.injEq] at hu; subst hu; simpa [Addr.add] using hc
    | j + 1, hu => simp at hu
  · simp only [List.mem_singleton] at hu; subst hu; rfl
  · unfold OT; simpa using h1
  · refine (Below.refl base w).grown h2 hbase (fun k hk => ?_)
    exact (World.ownsRow.lt hown k hk).1
theorem wp_appTN (w : World) {ops : Array Oper} {rest : List Oper} {o : Oper} {a : Act} {Q : Exit → Act → World → Prop} (hgd : o.guard = none) (s x : Operand)
    (ho : o.op = .call { callee := .builtin .append, args := #[s, x], argTypes := #[52, 52] })
    (base : Nat) (v : Value) (xs : List ByteArray) (hs : a.eval s = v) (hown : OT base w v xs) (A : Option Addr) (m c : Nat) (f : Nat → ByteArray) (hx : a.eval x = .slice A m c) (hr : TI w (.slice A m c) m f)
    (hlen : xs.length + m ≤ 1099511627776) (hbase : base ≤ w.heap.size)
    (h : ∀ v' w', OT base w' v' (xs ++ lstT m f) → Below base w w' → wpList Tryz.prog ops Q rest (a.put o.dst v') w') : wpList Tryz.prog ops Q (o :: rest) a w := by
  obtain ⟨i0, hi, hz0, hz1, hz2⟩ := info_parts info_string
  refine wpList_append_any w hgd s x 52 ho base 9 i0 (.string ByteArray.empty) 1 16 Tryz.underlying52 hi hz0 hz1 hz2 rfl (by omega) v xs.length (xs.map Value.string) hs hown w.heap.size A m c _ hx hr.reads
    (fun u hu => ?_) (by unfold maxLen; omega) (by omega) hbase (fun v' w' h1 h2 _ => h v' w' ?_ ?_)
  · obtain ⟨y, _, rfl⟩ := List.mem_map.1 hu; rfl
  · unfold OT; rw [List.length_append, lstT_length, List.map_append]; exact h1
  · exact (Below.refl base w).grown h2 hbase (fun k hk => (World.ownsRow.lt hown k hk).1)
end Go.Proofs.YtmhelhjjadoiaaaGreatDoor
