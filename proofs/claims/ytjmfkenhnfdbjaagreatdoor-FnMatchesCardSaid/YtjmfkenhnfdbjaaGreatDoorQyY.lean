/- Events of the laws: copies and comparisons. No condition but those stated. -/
import Derived.Test.YtjmfkenhnfdbjaaGreatDoorQyN
namespace Go.Proofs.YtjmfkenhnfdbjaaGreatDoor
set_option linter.unusedVariables false
set_option linter.unusedSimpArgs false
open Go.RowKit Go.Sort
def szE (left : Int) (n : Nat) : Int := if left - n < 0 then -1 else left - n
theorem szE_neg {left : Int} {n : Nat} (h : szE left n < 0) : szE left n = -1 := by
  unfold szE at *; split at h
  · rename_i h1; rw [if_pos h1]
  · omega
theorem szE_small {left : Int} {n : Nat} (h : 0 ≤ szE left n) : (n : Int) ≤ left ∧ szE left n = left - n := by
  unfold szE at *; split at h
  · omega
  · rename_i h1; rw [if_neg h1]; omega
/-- The two cells of an event. -/
def cE (R : Rc) (j m : Nat) : Value := if m = 0 then .int .i64 (R.k j) else .int .i64 (R.d j)
/-- A row of events of its own. -/
def FE (lo hi : Nat) (w : World) (v : Value) (R : Rc) : Prop :=
  ∃ g, v = .slice (some ⟨g, 0, none⟩) R.n R.n ∧ lo ≤ g ∧ g < hi ∧ R.n ≤ 1048576 ∧ w.rowIs g 70 (R.n * 2) (fun i => cE R (i / 2) (i % 2))
theorem row2_at {w : World} {g : Nat} {R : Rc} (h : w.rowIs g 70 (R.n * 2) (fun i => cE R (i / 2) (i % 2))) {j : Nat} (hj : j < R.n) :
    w.cell? ⟨g, 0 + j * 2, none⟩ = some (.int .i64 (R.k j)) ∧ w.cell? ⟨g, 0 + j * 2 + 1, none⟩ = some (.int .i64 (R.d j)) := by
  have e0 := h.cell (i := j * 2) (by omega)
  have e1 := h.cell (i := j * 2 + 1) (by omega)
  rw [show (j * 2) / 2 = j by omega, show (j * 2) % 2 = 0 by omega] at e0
  rw [show (j * 2 + 1) / 2 = j by omega, show (j * 2 + 1) % 2 = 1 by omega] at e1
  rw [Nat.zero_add]
  exact ⟨e0, e1⟩
theorem FE.evs {lo hi : Nat} {w : World} {v : Value} {R : Rc} (h : FE lo hi w v R) : EvS w v R := by
  obtain ⟨g, rfl, _, _, hn, hr⟩ := h
  exact ⟨_, _, rfl, fun _ => ⟨g, 0, rfl, hr.lt, fun j hj => row2_at hr hj⟩, Nat.le_refl _, by omega⟩
theorem FE.below {lo hi : Nat} {w w' : World} {v : Value} {R : Rc} (hb : Below w.heap.size w w') (h : FE lo hi w v R) : FE lo hi w' v R := by
  obtain ⟨g, e, h1, h2, hn, hr⟩ := h
  exact ⟨g, e, h1, h2, hn, hr.of_block (hb.block g hr.lt)⟩
theorem FE.mono {lo hi lo' hi' : Nat} {w : World} {v : Value} {R : Rc} (h : FE lo hi w v R) (h1 : lo' ≤ lo) (h2 : hi ≤ hi') : FE lo' hi' w v R := by
  obtain ⟨g, e, h3, h4, h5⟩ := h
  exact ⟨g, e, by omega, by omega, h5⟩
theorem FE.of_row {lo hi : Nat} {w : World} {g n : Nat} {R : Rc} (e : R.n = n) (hn : n ≤ 1048576) (h : w.rowIs g 70 (n * 2) (fun i => cE R (i / 2) (i % 2))) (h1 : lo ≤ g) (h2 : g < hi) : FE lo hi w (.slice (some ⟨g, 0, none⟩) n n) R := by
  subst e
  exact ⟨g, rfl, h1, h2, hn, h⟩
theorem info_ev : (Tryz.prog.info? 70).map (fun i => (i.zero, i.size, i.bytes)) = some (some (.agg #[.int .i64 0, .int .i64 0]), 2, 16) := by kernel_rfl
theorem make_rowK {P : Program} (t e : TypeId) (z : Value) (size bytes : Nat) (ht : P.underlying t = some (.slice e)) (hinfo : (P.info? e).map (fun i => (i.zero, i.size, i.bytes)) = some (some z, size, bytes))
    (n : Nat) (hbytes : bytes * n ≤ 281474976710656) (h63 : n ≤ 9223372036854775807) (w : World) :
    (Instr.makeSlice t (.int .i64 (n : Int)) (.int .i64 (n : Int))).run P w = .ok (.slice (some ⟨w.heap.size, 0, none⟩) n n) (w.alloc (.cells (madeCells z.cells (n * size)) e)) := by
  obtain ⟨i, hi, hzz⟩ := Option.map_eq_some_iff.1 hinfo
  simp only [Prod.mk.injEq] at hzz
  obtain ⟨hz, hs, hb⟩ := hzz
  have hb' : (i.bytes : Int) * (n : Int) ≤ 281474976710656 := by
    have h : ((i.bytes * n : Nat) : Int) ≤ 281474976710656 := by rw [hb]; omega
    rwa [Int.natCast_mul] at h
  have hr := run_make (P := P) w t e i z ht hi hz .i64 .i64 n n (by omega) (Int.le_refl _) hb' (by omega)
  simp only [Int.toNat_natCast, hs] at hr
  exact hr
theorem row2_made (w : World) (t : TypeId) (n : Nat) : (w.alloc (.cells (madeCells #[.int .i64 0, .int .i64 0] (n * 2)) t)).rowIs w.heap.size t (n * 2) (fun _ => .int .i64 0) := by
  have h := World.rowIs_alloc w (madeCells #[.int .i64 0, .int .i64 0] (n * 2)) t (fun _ => .int .i64 0) (fun i hi => by
    rw [size_madeCells] at hi
    have hm : i % 2 < 2 := Nat.mod_lt _ (by omega)
    simp only [madeCells, Array.getElem?_map, Array.getElem?_range, hi, if_true, Option.map_some]
    congr 1
    show (#[Value.int .i64 0, Value.int .i64 0] : Array Value)[i % 2]! = .int .i64 0
    generalize i % 2 = m at *
    match m, hm with
    | 0, _ => rfl
    | 1, _ => rfl)
  rwa [size_madeCells] at h
theorem row2_step (R : Rc) (k i : Nat) :
    (if i = k * 2 + 1 then Value.int .i64 (R.d k) else if i = k * 2 then .int .i64 (R.k k) else if i < k * 2 then cE R (i / 2) (i % 2) else .int .i64 0) =
    if i < (k + 1) * 2 then cE R (i / 2) (i % 2) else .int .i64 0 := by
  by_cases h1 : i = k * 2 + 1
  · subst h1
    rw [if_pos rfl, if_pos (by omega), show (k * 2 + 1) / 2 = k by omega, show (k * 2 + 1) % 2 = 1 by omega]; rfl
  rw [if_neg h1]
  by_cases h0 : i = k * 2
  · subst h0
    rw [if_pos rfl, if_pos (by omega), show (k * 2) / 2 = k by omega, show (k * 2) % 2 = 0 by omega]; rfl
  rw [if_neg h0]
  by_cases hl : i < k * 2
  · rw [if_pos hl, if_pos (by omega)]
  · rw [if_neg hl, if_neg (by omega)]
theorem EvS.at_ {w wr : World} {A : Option Addr} {n : Nat} {R : Rc} (hB : Below w.heap.size w wr) (h : 0 < n → ∃ b off, A = some ⟨b, off, none⟩ ∧ b < w.heap.size ∧ ∀ j, j < n → w.cell? ⟨b, off + j * 2, none⟩ = some (.int .i64 (R.k j)) ∧ w.cell? ⟨b, off + j * 2 + 1, none⟩ = some (.int .i64 (R.d j))) (h0 : 0 < n) :
    ∃ b off, A = some ⟨b, off, none⟩ ∧ b < wr.heap.size ∧ ∀ j, j < n → wr.cell? ⟨b, off + j * 2, none⟩ = some (.int .i64 (R.k j)) ∧ wr.cell? ⟨b, off + j * 2 + 1, none⟩ = some (.int .i64 (R.d j)) := by
  obtain ⟨b, off, e, hl, hc⟩ := h h0
  exact ⟨b, off, e, Nat.lt_of_lt_of_le hl hB.size, fun j hj => ⟨(hB.cell (p := ⟨b, off + j * 2, none⟩) hl).trans (hc j hj).1, (hB.cell (p := ⟨b, off + j * 2 + 1, none⟩) hl).trans (hc j hj).2⟩⟩
end Go.Proofs.YtjmfkenhnfdbjaaGreatDoor
