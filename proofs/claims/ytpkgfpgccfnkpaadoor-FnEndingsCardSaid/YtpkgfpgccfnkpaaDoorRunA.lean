/- Lists of steps. No condition but those stated. -/
import Derived.Test.YtpkgfpgccfnkpaaDoorMem
import Derived.Test.YtpkgfpgccfnkpaaDoorLifeI
import Derived.Lib.LazyBuf
namespace Go.Proofs.YtpkgfpgccfnkpaaDoor
set_option linter.unusedVariables false
set_option linter.unusedSimpArgs false
open Go.RowKit Go.Sort
/-- The value v is a slice of the n steps K, V. -/
def SS (w : World) (v : Value) (n : Nat) (K V : Nat → Int) : Prop :=
  ∃ A cap, v = .slice A n cap ∧ (0 < n → ∃ b off, A = some ⟨b, off, none⟩ ∧ b < w.heap.size ∧ ∀ j, j < n → w.cell? ⟨b, off + j * 2, none⟩ = some (.int .i64 (K j)) ∧ w.cell? ⟨b, off + j * 2 + 1, none⟩ = some (.int .i64 (V j))) ∧ n ≤ cap ∧ cap ≤ 9223372036854775807
theorem SS.at_ {w wr : World} {A : Option Addr} {n : Nat} {K V : Nat → Int} (hB : Below w.heap.size w wr)
    (h : 0 < n → ∃ b off, A = some ⟨b, off, none⟩ ∧ b < w.heap.size ∧ ∀ j, j < n → w.cell? ⟨b, off + j * 2, none⟩ = some (.int .i64 (K j)) ∧ w.cell? ⟨b, off + j * 2 + 1, none⟩ = some (.int .i64 (V j))) (h0 : 0 < n) :
    ∃ b off, A = some ⟨b, off, none⟩ ∧ b < wr.heap.size ∧ ∀ j, j < n → wr.cell? ⟨b, off + j * 2, none⟩ = some (.int .i64 (K j)) ∧ wr.cell? ⟨b, off + j * 2 + 1, none⟩ = some (.int .i64 (V j)) := by
  obtain ⟨b, off, ea, hl, hc⟩ := h h0
  exact ⟨b, off, ea, Nat.lt_of_lt_of_le hl hB.size, fun j hj => ⟨(hB.cell (p := ⟨b, off + j * 2, none⟩) hl).trans (hc j hj).1, (hB.cell (p := ⟨b, off + j * 2 + 1, none⟩) hl).trans (hc j hj).2⟩⟩
theorem SS.below {w w' : World} {v : Value} {n : Nat} {K V : Nat → Int} (hb : Below w.heap.size w w') (h : SS w v n K V) : SS w' v n K V :=
  let ⟨A, cap, e, hr, h2⟩ := h
  ⟨A, cap, e, SS.at_ hb hr, h2⟩
def szSs (left : Int) (n : Nat) : Int := if left - n < 0 then -1 else left - n
theorem szSs_small {left : Int} {n : Nat} (h : 0 ≤ szSs left n) : (n : Int) ≤ left := by
  unfold szSs at h; split at h <;> omega
def c2 (k v : Int) (m : Nat) : Value := if m = 0 then .int .i64 k else .int .i64 v
theorem info_step : (Tryd.prog.info? 37).map (fun i => (i.zero, i.size, i.bytes)) = some (some (.agg #[.int .i64 0, .int .i64 0]), 2, 16) := by kernel_rfl
theorem make_rowN {P : Program} (t e : TypeId) (z : Value) (size bytes : Nat) (ht : P.underlying t = some (.slice e)) (hinfo : (P.info? e).map (fun i => (i.zero, i.size, i.bytes)) = some (some z, size, bytes))
    (n : Nat) (hbytes : bytes * n ≤ 281474976710656) (h63 : n ≤ 9223372036854775807) (w : World) :
    (Instr.makeSlice t (.int .i64 (n : Int)) (.int .i64 (n : Int))).run P w = .ok (.slice (some ⟨w.heap.size, 0, none⟩) n n) (w.alloc (.cells (madeCells z.cells (n * size)) e)) := by
  obtain ⟨i, hi, hzz⟩ := Option.map_eq_some_iff.1 hinfo
  simp only [Prod.mk.injEq] at hzz
  obtain ⟨hz, hs, hb⟩ := hzz
  have hb' : (i.bytes : Int) * (n : Int) ≤ 281474976710656 := by
    have h : ((i.bytes * n : Nat) : Int) ≤ 281474976710656 := by rw [hb]; omega
    rwa [Int.natCast_mul] at h
  have hr := run_make (P := P) w t e i z ht hi hz .i64 .i64 n n (by omega) (Int.le_refl _) hb' (by omega)
  simp only [Int.toNat_natCast, hs] at hr
  exact hr
theorem row2_made (w : World) (t : TypeId) (n : Nat) : (w.alloc (.cells (madeCells #[.int .i64 0, .int .i64 0] (n * 2)) t)).rowIs w.heap.size t (n * 2) (fun i => c2 0 0 (i % 2)) := by
  have h := World.rowIs_alloc w (madeCells #[.int .i64 0, .int .i64 0] (n * 2)) t (fun i => c2 0 0 (i % 2)) (fun i hi => by
    rw [size_madeCells] at hi
    have hm : i % 2 < 2 := Nat.mod_lt _ (by omega)
    simp only [madeCells, Array.getElem?_map, Array.getElem?_range, hi, if_true, Option.map_some]
    congr 1
    show (#[Value.int .i64 0, Value.int .i64 0] : Array Value)[i % 2]! = c2 0 0 (i % 2)
    generalize i % 2 = m at *
    match m, hm with
    | 0, _ => rfl
    | 1, _ => rfl)
  rwa [size_madeCells] at h
theorem row2_step (K V : Nat → Int) (k i : Nat) :
    (if i = k * 2 + 1 then Value.int .i64 (V k) else if i = k * 2 then .int .i64 (K k) else if i < k * 2 then c2 (K (i / 2)) (V (i / 2)) (i % 2) else c2 0 0 (i % 2)) =
    if i < (k + 1) * 2 then c2 (K (i / 2)) (V (i / 2)) (i % 2) else c2 0 0 (i % 2) := by
  by_cases h1 : i = k * 2 + 1
  · subst h1
    rw [if_pos rfl, if_pos (by omega), show (k * 2 + 1) / 2 = k by omega, show (k * 2 + 1) % 2 = 1 by omega]; rfl
  rw [if_neg h1]
  by_cases h0 : i = k * 2
  · subst h0
    rw [if_pos rfl, if_pos (by omega), show (k * 2) / 2 = k by omega, show (k * 2) % 2 = 0 by omega]; rfl
  rw [if_neg h0]
  by_cases hl : i < k * 2
  · rw [if_pos hl, if_pos (by omega)]
  · rw [if_neg hl, if_neg (by omega)]
end Go.Proofs.YtpkgfpgccfnkpaaDoor
