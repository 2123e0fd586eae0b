/- Sorting late reviews: the library's insertion sort. No condition but those stated. -/
import Derived.Test.YtcdffikambbleaaRvDA
import Derived.Test.YtcdffikambbleaaRevT
import Derived.Test.YtcdffikambbleaaIns
import Derived.BigRegion
namespace Go.Proofs.Ytcdffikambbleaa
set_option linter.unusedVariables false
set_option linter.unusedSimpArgs false
open Go.RowKit Go.Sort
/-- A review as its three cells tell it. -/
structure El where
  rid : Int
  due : Int
  A : Option Addr
  n : Nat
  c : Nat
instance : Inhabited El := ⟨⟨0, 0, none, 0, 0⟩⟩
def cE (x : El) (m : Nat) : Value := if m = 0 then .int .i64 x.rid else if m = 1 then .int .i64 x.due else .slice x.A x.n x.c
def ltE (x y : El) : Bool := decide (x.due < y.due)
def OE (base : Nat) (w : World) (v : Value) (l : List El) : Prop := own3 base w v l.length (fun i => cE (atE l (i / 3)) (i % 3))
theorem OE.below {base : Nat} {w w' : World} {v : Value} {l : List El} (hb : Below w.heap.size w w') (h : OE base w v l) : OE base w' v l := own3.below hb h
theorem OE.alloc {base : Nat} {w : World} {v : Value} {l : List El} (h : OE base w v l) (o : Obj) : OE base (w.alloc o) v l := h.below ((Below.refl _ _).alloc (Nat.le_refl _) o)
theorem OE.nil (base : Nat) (w : World) : OE base w (.slice none 0 0) [] := ⟨[], World.ownsRow_nil w base _ _, fun i hi => absurd hi (by simp)⟩
def cmpI (a b : Int) : Int := if a < b then -1 else if b < a then 1 else 0
theorem cmpI_lt (a b : Int) : decide (cmpI a b < 0) = decide (a < b) := by
  unfold cmpI
  by_cases h : a < b
  · simp [h]
  · by_cases h2 : b < a <;> simp [h, h2]
theorem C_isNaNI (a : Int) (w : World) : Calls Try.prog 116 #[.int .i64 a] w fun e w' => e = .returned (.bool false) ∧ w = w' := by
  go_enter Try.func116, Try.ntmps116
  go_wp2
  go_ret
  exact ⟨by simp, rfl⟩
theorem C_CompareI (a b : Int) (w : World) : Calls Try.prog 103 #[.int .i64 a, .int .i64 b] w fun e w' => e = .returned (.int .i64 (cmpI a b)) ∧ w = w' := by
  by_cases h1 : a < b
  · go_enter Try.func103, Try.ntmps103
    go_wp2_with (go_at_call 116; refine (C_isNaNI _ _).mono ?_; rintro e w' ⟨rfl, rfl⟩)
    go_ret
    exact ⟨ret_int (by unfold cmpI; rw [if_pos h1]), rfl⟩
  · by_cases h2 : b < a
    · go_enter Try.func103, Try.ntmps103
      go_wp2_with (go_at_call 116; refine (C_isNaNI _ _).mono ?_; rintro e w' ⟨rfl, rfl⟩)
      go_ret
      exact ⟨ret_int (by unfold cmpI; rw [if_neg (by omega), if_pos h2]), rfl⟩
    · go_enter Try.func103, Try.ntmps103
      go_wp2_with (go_at_call 116; refine (C_isNaNI _ _).mono ?_; rintro e w' ⟨rfl, rfl⟩)
      go_ret
      exact ⟨ret_int (by unfold cmpI; rw [if_neg (by omega), if_neg (by omega)]), rfl⟩
theorem C_Late1 (x y : El) (w : World) : Calls Try.prog 102 #[.agg #[.int .i64 (x).rid, .int .i64 (x).due, .slice (x).A (x).n (x).c], .agg #[.int .i64 (y).rid, .int .i64 (y).due, .slice (y).A (y).n (y).c]] w fun e w' => e = .returned (.int .i64 (cmpI x.due y.due)) ∧ Below w.heap.size w w' := by
  go_enter Try.func102, Try.ntmps102
  go_wp2_with (go_at_call 103; refine (C_CompareI _ _ _).mono ?_; rintro e w' ⟨rfl, rfl⟩)
  go_ret
  exact ⟨rfl, by (repeat (first | with_reducible exact Below.refl _ _ | with_reducible exact below_regrown _ _ _ | with_reducible refine bel_step0 (by assumption) ?_ | with_reducible refine bel_alloc0 ?_ _ | with_reducible refine bel_regrown0 ?_ _ _ | with_reducible refine bel_regrown ?_ (by first | omega | (simp; done) | (simp; omega)) _ _ | with_reducible refine below_drewN ?_ _ | with_reducible refine Below.drew ?_ | with_reducible refine Below.alloc ?_ (by first | omega | (simp; done) | (simp; omega)) _ | with_reducible refine Below.setCell ?_ (by first | omega | (simp; done) | (simp; omega)) _ | with_reducible refine bel_step (by assumption) (by first | omega | (simp; done) | (simp; omega)) ?_ | with_reducible refine bel_grown (by assumption) (by first | omega | (simp; done) | (simp; omega)) (by first | omega | (simp; done) | (simp; omega)) ?_))⟩
theorem OE.cells {base : Nat} {w : World} {n cap g : Nat} {l : List El} (h : OE base w (.slice (some ⟨g, 0, none⟩) n cap) l) {j : Nat} (hj : j < l.length) :
    w.cell? ⟨g, j * 3, none⟩ = some (.int .i64 (atE l j).rid) ∧ w.cell? ⟨g, j * 3 + 1, none⟩ = some (.int .i64 (atE l j).due) ∧ w.cell? ⟨g, j * 3 + 2, none⟩ = some (.slice (atE l j).A (atE l j).n (atE l j).c) := by
  obtain ⟨A, cap', e, _, _, _⟩ := own3.form h
  injection e with e1 e2 e3
  subst e2
  refine ⟨?_, ?_, ?_⟩
  · have := own3.cell h (i := j * 3) (by omega)
    rw [show j * 3 / 3 = j by omega, show j * 3 % 3 = 0 by omega] at this; exact this
  · have := own3.cell h (i := j * 3 + 1) (by omega)
    rw [show (j * 3 + 1) / 3 = j by omega, show (j * 3 + 1) % 3 = 1 by omega] at this; exact this
  · have := own3.cell h (i := j * 3 + 2) (by omega)
    rw [show (j * 3 + 2) / 3 = j by omega, show (j * 3 + 2) % 3 = 2 by omega] at this; exact this
/-- An element stored at its place. -/
theorem OE.set {base : Nat} {w : World} {cap g : Nat} {l : List El} (h : OE base w (.slice (some ⟨g, 0, none⟩) l.length cap) l) {j : Nat} (hj : j < l.length) (x : El) :
    OE base (((w.setCell ⟨g, j * 3, none⟩ (.int .i64 x.rid)).setCell ⟨g, j * 3 + 1, none⟩ (.int .i64 x.due)).setCell ⟨g, j * 3 + 2, none⟩ (.slice x.A x.n x.c)) (.slice (some ⟨g, 0, none⟩) l.length cap) (l.set j x) := by
  have h1 := ((own3.set h (j * 3) (.int .i64 x.rid)).set (j * 3 + 1) (.int .i64 x.due)).set (j * 3 + 2) (.slice x.A x.n x.c)
  unfold OE
  rw [List.length_set]
  refine h1.congr fun i hi => ?_
  rw [atE_set (by omega)]
  show (if i = j * 3 + 2 then _ else if i = j * 3 + 1 then _ else if i = j * 3 then _ else cE (atE l (i / 3)) (i % 3)) = _
  by_cases e : j = i / 3
  · rw [if_pos e]
    have hm : i % 3 = 0 ∨ i % 3 = 1 ∨ i % 3 = 2 := by omega
    rcases hm with hm | hm | hm
    · rw [hm, if_neg (by omega), if_neg (by omega), if_pos (by omega)]; rfl
    · rw [hm, if_neg (by omega), if_pos (by omega)]; rfl
    · rw [hm, if_pos (by omega)]; rfl
  · rw [if_neg e, if_neg (by omega), if_neg (by omega), if_neg (by omega)]
theorem OE.frozen {base : Nat} {w : World} {n cap g : Nat} {l : List El} (h : OE base w (.slice (some ⟨g, 0, none⟩) n cap) l) (i : Nat) : w.frozen? ⟨g, i, none⟩ = false := by
  obtain ⟨A, cap', e, _, _, _⟩ := own3.form h
  injection e with e1 e2 e3
  subst e2
  exact own3.frozen h i
end Go.Proofs.Ytcdffikambbleaa
