/- Lists of looks. No condition but those stated. -/
import Derived.Test.YtmhelhjjadoiaaaGreatDoorTxtE
import Derived.Test.YtmhelhjjadoiaaaGreatDoorTxtC
import Derived.Test.YtmhelhjjadoiaaaGreatDoorOpen
import Derived.Lib.LazyBuf
namespace Go.Proofs.YtmhelhjjadoiaaaGreatDoor
set_option linter.unusedVariables false
set_option linter.unusedSimpArgs false
open Go.RowKit Go.Sort
structure Lk where
  tick : Int
  who : Int
  rid : Int
  kind : Int
  why : ByteArray
def zeroK : Lk := ⟨0, 0, 0, 0, ByteArray.empty⟩
/-- The five cells of a look. -/
def cK (x : Lk) (m : Nat) : Value := if m = 0 then .int .i64 x.tick else if m = 1 then .int .i64 x.who else if m = 2 then .int .i64 x.rid else if m = 3 then .int .i64 x.kind else .string x.why
structure LkAt (w : World) (b o : Nat) (x : Lk) : Prop where
  c0 : w.cell? ⟨b, o, none⟩ = some (.int .i64 x.tick)
  c1 : w.cell? ⟨b, o + 1, none⟩ = some (.int .i64 x.who)
  c2 : w.cell? ⟨b, o + 2, none⟩ = some (.int .i64 x.rid)
  c3 : w.cell? ⟨b, o + 3, none⟩ = some (.int .i64 x.kind)
  c4 : w.cell? ⟨b, o + 4, none⟩ = some (.string x.why)
theorem LkAt.block {w w' : World} {b o : Nat} {x : Lk} (h : LkAt w b o x) (e : w'.heap[b]? = w.heap[b]?) : LkAt w' b o x :=
  ⟨(World.cell?_of_block (w := w) (a := ⟨b, o, none⟩) e).trans h.c0, (World.cell?_of_block (w := w) (a := ⟨b, o + 1, none⟩) e).trans h.c1, (World.cell?_of_block (w := w) (a := ⟨b, o + 2, none⟩) e).trans h.c2, (World.cell?_of_block (w := w) (a := ⟨b, o + 3, none⟩) e).trans h.c3, (World.cell?_of_block (w := w) (a := ⟨b, o + 4, none⟩) e).trans h.c4⟩
/-- The slice whose head is A reads as the n looks R. -/
def RK (w : World) (A : Option Addr) (n : Nat) (R : Nat → Lk) : Prop :=
  0 < n → ∃ b off, A = some ⟨b, off, none⟩ ∧ b < w.heap.size ∧ ∀ j, j < n → LkAt w b (off + j * 5) (R j)
theorem RK.below {w w' : World} {A : Option Addr} {n : Nat} {R : Nat → Lk} (hb : Below w.heap.size w w') (h : RK w A n R) : RK w' A n R := fun h0 => by
  obtain ⟨b, off, e, hl, hc⟩ := h h0
  exact ⟨b, off, e, Nat.lt_of_lt_of_le hl hb.size, fun j hj => (hc j hj).block (hb.block b hl)⟩
def LKs (w : World) (v : Value) (n : Nat) (R : Nat → Lk) : Prop :=
  ∃ A cap, v = .slice A n cap ∧ RK w A n R ∧ n ≤ cap ∧ cap ≤ 9223372036854775807
theorem LKs.below {w w' : World} {v : Value} {n : Nat} {R : Nat → Lk} (hb : Below w.heap.size w w') (h : LKs w v n R) : LKs w' v n R :=
  let ⟨A, cap, e, hr, h2⟩ := h
  ⟨A, cap, e, hr.below hb, h2⟩
/-- .. in a block from lo on and below hi, that may be written. -/
def WK (lo hi : Nat) (w : World) (v : Value) (n : Nat) (R : Nat → Lk) : Prop :=
  ∃ A cap, v = .slice A n cap ∧ (0 < n → ∃ b off, A = some ⟨b, off, none⟩ ∧ lo ≤ b ∧ b < hi ∧ b < w.heap.size ∧ (∀ j, j < n → LkAt w b (off + j * 5) (R j)) ∧ ∀ i, w.frozen? ⟨b, i, none⟩ = false) ∧ n ≤ cap ∧ cap ≤ 9223372036854775807
theorem WK.lks {lo hi : Nat} {w : World} {v : Value} {n : Nat} {R : Nat → Lk} (h : WK lo hi w v n R) : LKs w v n R := by
  obtain ⟨A, cap, rfl, hr, hc, hm⟩ := h
  refine ⟨A, cap, rfl, fun h0 => ?_, hc, hm⟩
  obtain ⟨b, off, e, _, _, hl, hcell, _⟩ := hr h0
  exact ⟨b, off, e, hl, hcell⟩
theorem WK.chg {lo hi lo' hi' : Nat} {w w' : World} {v : Value} {n : Nat} {R : Nat → Lk} (hc : Chg lo' hi' w w') (hd : hi ≤ lo' ∨ hi' ≤ lo) (h : WK lo hi w v n R) : WK lo hi w' v n R := by
  obtain ⟨A, cap, rfl, hr, h2⟩ := h
  refine ⟨A, cap, rfl, fun h0 => ?_, h2⟩
  obtain ⟨b, off, e, h3, h4, hl, hcell, hf⟩ := hr h0
  have hb := hc.block b hl (by omega)
  exact ⟨b, off, e, h3, h4, Nat.lt_of_lt_of_le hl hc.size, fun j hj => (hcell j hj).block hb, fun i => (World.frozen?_of_block (w := w) (a := ⟨b, i, none⟩) hb).trans (hf i)⟩
theorem WK.below {lo hi : Nat} {w w' : World} {v : Value} {n : Nat} {R : Nat → Lk} (hb : Below w.heap.size w w') (h : WK lo hi w v n R) : WK lo hi w' v n R :=
  h.chg (lo' := hi) (hi' := hi) (Chg.of_below hb) (.inl (Nat.le_refl _))
theorem WK.mono {lo hi lo' hi' : Nat} {w : World} {v : Value} {n : Nat} {R : Nat → Lk} (h : WK lo hi w v n R) (h1 : lo' ≤ lo) (h2 : hi ≤ hi') : WK lo' hi' w v n R := by
  obtain ⟨A, cap, rfl, hr, h3⟩ := h
  refine ⟨A, cap, rfl, fun h0 => ?_, h3⟩
  obtain ⟨b, off, e, h4, h5, h6⟩ := hr h0
  exact ⟨b, off, e, by omega, by omega, h6⟩
section
open Go.ChangeShapes Go.WideShapes Go.ChangeAt Go.Deep Go.Joins
variable {H : Type} {enc : TypeId × Value → H} {w : World} {base : Nat} {spare : Nat → Bool} {held : Bool}
theorem spot_cell {a : Addr} {k : Nat} {v : Value} {b off : Nat} (hab : a = ⟨b, off, none⟩) (h : w.cell? (a.add k) = some v) : w.cell? ⟨b, off + k, none⟩ = some v := by
  subst hab
  unfold Addr.add at h
  by_cases e : k = 0
  · subst e; simpa using h
  · rw [if_neg e] at h; exact h
end
def szK (left : Int) (s : ByteArray) : Int := if left - s.size < 0 then -1 else left - s.size
end Go.Proofs.YtmhelhjjadoiaaaGreatDoor
