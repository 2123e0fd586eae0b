/- The bytes that a law is handed: opened; the cursor at their start; whether they are too many. No condition but those stated. -/
import Derived.Test.YtmhelhjjadoiaaaGreatDoorCurL
import Derived.ChangeSlices
namespace Go.Proofs.YtmhelhjjadoiaaaGreatDoor
set_option linter.unusedVariables false
set_option linter.unusedSimpArgs false
open Go.ChangeShapes Go.WideShapes Go.ChangeAt Go.RowKit Go.Deep Go.Joins
/-- The value v is a slice of n bytes. -/
def SU (w : World) (v : Value) (n : Nat) : Prop :=
  ∃ (A : Option Addr) (cap : Nat) (f : Nat → Int), v = .slice A n cap ∧ n ≤ 9223372036854775807 ∧ (∀ j, 0 ≤ f j ∧ f j ≤ 255) ∧ (0 < n → ∃ b off, A = some ⟨b, off, none⟩ ∧ b < w.heap.size ∧ ∀ j, j < n → w.cell? ⟨b, off + j, none⟩ = some (.int .u8 (f j)))
theorem SU.below {w w' : World} {v : Value} {n : Nat} (h : SU w v n) (hb : Below w.heap.size w w') : SU w' v n := by
  obtain ⟨A, cap, f, e, hn, hf, hr⟩ := h
  refine ⟨A, cap, f, e, hn, hf, fun h0 => ?_⟩
  obtain ⟨b, off, ea, hl, hc⟩ := hr h0
  exact ⟨b, off, ea, Nat.lt_of_lt_of_le hl hb.size, fun j hj => (hb.cell (p := ⟨b, off + j, none⟩) hl).trans (hc j hj)⟩
theorem Cu.start {w : World} {v : Value} {n : Nat} (h : SU w v n) (T : TypeId) : Cu (w.alloc (.cells #[v, .int .i64 0, .int .u64 0] T)) w.heap.size 0 := by
  obtain ⟨A, cap, f, rfl, hn, hf, hr⟩ := h
  refine ⟨by simp, fun i => by simp, A, n, cap, f, 0, 0, by simp, by simp, by simp, Nat.le_refl _, hn, hf, fun h0 => ?_⟩
  obtain ⟨b, off, ea, hl, hc⟩ := hr h0
  exact ⟨b, off, ea, hl, fun j hj => (World.cell?_alloc_lt _ _ _ hl).trans (hc j hj)⟩
section
variable {H : Type} {enc : TypeId × Value → H} {w : World} {base : Nat} {spare : Nat → Bool} {held : Bool}
theorem su_of_cells {a : Addr} {n : Nat} {f : Nat → Int} (h : ∀ i, i < n → w.cell? (a.add i) = some (.int .u8 (f i))) :
    0 < n → ∃ b off, some a = some ⟨b, off, none⟩ ∧ b < w.heap.size ∧ ∀ j, j < n → w.cell? ⟨b, off + j, none⟩ = some (.int .u8 (f j)) := fun h0 => by
  have h00 := h 0 h0
  obtain ⟨b, off, spot⟩ := a
  have hs : spot = none := by simpa [Addr.add] using World.cell?_spot h00
  subst hs
  refine ⟨b, off, rfl, ?_, fun j hj => ?_⟩
  · have := World.block_lt_of_cell? w _ h00
    simpa [Addr.add] using this
  · have := h j hj
    unfold Addr.add at this
    by_cases e : j = 0
    · subst e; simpa using this
    · rw [if_neg e] at this; exact this
theorem u8_wf {x : Int} (h : (Lit.int .u8 x).wf = true) : 0 ≤ x ∧ x ≤ 255 := by
  simp only [Lit.wf, IntKind.min, IntKind.max, IntKind.signed, IntKind.bits, Bool.and_eq_true, decide_eq_true_eq, Bool.false_eq_true, if_false] at h
  omega
set_option maxRecDepth 100000 in
theorem view_Suint8 {r : Reach} {b0 : Nat} {v : Value} {d : DataW H} {p : List MemPlace} (hv : Value.okWide Tryz.prog w r b0 22 v) (h : DataW.Trod enc Tryz.prog w base spare held 22 v d p) :
    ∃ n : Nat, SU w v n := by
  obtain ⟨a0, len0, cap0, rfl⟩ := okWide_slice Tryz.underlying22 hv
  obtain ⟨fuel, hf⟩ := h
  rcases open_ints Tryz.underlying22 Tryz.underlying5 (by kernel_rfl) hf with ⟨hcs, _⟩ | ⟨a, len, cap, zs, hcs, _, hl, hm, hz, _, hcell, hwz⟩
  · simp [Value.cells] at hcs
    obtain ⟨rfl, rfl, rfl⟩ := hcs
    exact ⟨0, none, 0, fun _ => 0, rfl, by omega, fun _ => (show (0 : Int) ≤ 0 ∧ (0 : Int) ≤ 255 from ⟨by decide, by decide⟩), fun h => absurd h (by omega)⟩
  · simp [Value.cells] at hcs
    obtain ⟨rfl, rfl, rfl⟩ := hcs
    have hle : len0 ≤ zs.length := by rw [hz]; split <;> omega
    refine ⟨len0, some a, cap0, fun j => zs.getD j 0, rfl, by unfold maxLen at hm; omega, fun j => ?_, su_of_cells fun i hi => hcell i (by omega)⟩
    show 0 ≤ zs.getD j 0 ∧ zs.getD j 0 ≤ 255
    rw [List.getD_eq_getElem?_getD]
    by_cases hj : j < zs.length
    · rw [List.getElem?_eq_getElem hj]
      exact u8_wf (hwz _ (List.getElem_mem _))
    · rw [List.getElem?_eq_none (by omega)]
      exact ⟨by decide, by decide⟩
end
theorem C_rBig (v : Value) (n : Nat) (w : World) (h : SU w v n) :
    Calls Tryz.prog 5 #[v] w fun e w' => e = .returned (.bool (decide (65536 < (n : Int)))) ∧ w = w' := by
  obtain ⟨A, cap, f, rfl, hn, hf, hr⟩ := h
  clear hr hf
  go_enter Tryz.func5, Tryz.ntmps5
  go_wp2
  go_ret
  exact ⟨rfl, rfl⟩
end Go.Proofs.YtmhelhjjadoiaaaGreatDoor
