/- Words on slices of texts, and on words. No condition. -/
import Derived.Test.YtjmfkenhnfdbjaaGreatDoorMem
import Derived.Test.YtjmfkenhnfdbjaaGreatDoorIntsB
import Derived.SliceStrings
import Derived.ChangeMaps5
import Derived.Lib.SlTrimSet
namespace Go.Proofs.YtjmfkenhnfdbjaaGreatDoor
set_option linter.unusedVariables false
open Go.RowKit Go.ChangeShapes Go.WideShapes Go.Deep

/-- The slice whose head is A reads as the n texts f. -/
def RT (w : World) (A : Option Addr) (n : Nat) (f : Nat → ByteArray) : Prop :=
  0 < n → ∃ b off, A = some ⟨b, off, none⟩ ∧ b < w.heap.size ∧ ∀ j, j < n → w.cell? ⟨b, off + j, none⟩ = some (.string (f j))
theorem RT.below {w w' : World} {A : Option Addr} {n : Nat} {f : Nat → ByteArray} (hb : Below w.heap.size w w') (h : RT w A n f) : RT w' A n f := fun h0 => by
  obtain ⟨b, off, e, hl, hc⟩ := h h0
  exact ⟨b, off, e, Nat.lt_of_lt_of_le hl hb.size, fun j hj => (hb.cell (p := ⟨b, off + j, none⟩) hl).trans (hc j hj)⟩
/-- The value v is a slice of the n texts f. -/
def TI (w : World) (v : Value) (n : Nat) (f : Nat → ByteArray) : Prop :=
  ∃ A cap, v = .slice A n cap ∧ RT w A n f ∧ n ≤ cap ∧ cap ≤ 9223372036854775807
theorem TI.below {w w' : World} {v : Value} {n : Nat} {f : Nat → ByteArray} (hb : Below w.heap.size w w') (h : TI w v n f) : TI w' v n f :=
  let ⟨A, cap, e, hr, h2⟩ := h
  ⟨A, cap, e, hr.below hb, h2⟩
theorem TI.congr {w : World} {v : Value} {n : Nat} {f g : Nat → ByteArray} (h : TI w v n f) (hfg : ∀ j, j < n → f j = g j) : TI w v n g := by
  obtain ⟨A, cap, rfl, hr, h2⟩ := h
  refine ⟨A, cap, rfl, fun h0 => ?_, h2⟩
  obtain ⟨b, off, e, hl, hc⟩ := hr h0
  exact ⟨b, off, e, hl, fun j hj => (hc j hj).trans (by rw [hfg j hj])⟩
theorem SI.congr {w : World} {v : Value} {n : Nat} {f g : Nat → Int} (h : SI w v n f) (hfg : ∀ j, j < n → f j = g j) : SI w v n g := by
  obtain ⟨A, cap, rfl, hr, h2⟩ := h
  refine ⟨A, cap, rfl, fun h0 => ?_, h2⟩
  obtain ⟨b, off, e, hl, hc⟩ := hr h0
  exact ⟨b, off, e, hl, fun j hj => (hc j hj).trans (by rw [hfg j hj])⟩

section
variable {H : Type} {enc : TypeId × Value → H} {P : Program} {w : World} {base : Nat} {spare : Nat → Bool} {held : Bool}
theorem rt_of_cells {a : Addr} {n : Nat} {f : Nat → ByteArray} (h : ∀ i, i < n → w.cell? (a.add i) = some (.string (f i))) : RT w (some a) n f := fun h0 => by
  have h00 := h 0 h0
  obtain ⟨b, off, spot⟩ := a
  have hs : spot = none := by simpa [Addr.add] using World.cell?_spot h00
  subst hs
  refine ⟨b, off, rfl, ?_, fun j hj => ?_⟩
  · have := World.block_lt_of_cell? w _ h00
    simpa [Addr.add] using this
  · have := h j hj
    unfold Addr.add at this
    by_cases e : j = 0
    · subst e; simpa using this
    · rw [if_neg e] at this; exact this
set_option maxRecDepth 100000 in
/-- A slice of texts that came in. -/
theorem view_Sstring {r : Reach} {b0 : Nat} {v : Value} {d : DataW H} {p : List MemPlace} (hv : Value.okWide Tryz.prog w r b0 66 v) (h : DataW.Trod enc Tryz.prog w base spare held 66 v d p) :
    ∃ x : Nat × (Nat → ByteArray), TI w v x.1 x.2 ∧ ∀ j, j < x.1 → (x.2 j).size ≤ 9223372036854775807 := by
  obtain ⟨a0, len0, cap0, rfl⟩ := okWide_slice Tryz.underlying66 hv
  obtain ⟨fuel, hf⟩ := h
  rcases open_strings Tryz.underlying66 Tryz.underlying9 (by kernel_rfl) hf with ⟨hcs, _⟩ | ⟨a, len, cap, ss, hcs, _, hl, hm, hz, _, hcell, hsz⟩
  · simp [Value.cells] at hcs
    obtain ⟨rfl, rfl, rfl⟩ := hcs
    exact ⟨(0, fun _ => ByteArray.empty), ⟨none, 0, rfl, fun h => absurd h (by simp), by simp, by omega⟩, fun j hj => absurd hj (by simp)⟩
  · simp [Value.cells] at hcs
    obtain ⟨rfl, rfl, rfl⟩ := hcs
    have hle : len0 ≤ ss.length := by rw [hz]; split <;> omega
    refine ⟨(len0, fun j => ss.getD j ByteArray.empty), ⟨some a, cap0, rfl, rt_of_cells fun i hi => hcell i (by omega), hl, by unfold maxLen at hm; exact hm⟩, fun j hj => ?_⟩
    simp only at hj ⊢
    have hmem : ss.getD j ByteArray.empty ∈ ss := by
      rw [List.getD_eq_getElem?_getD, List.getElem?_eq_getElem (by omega)]
      exact List.getElem_mem _
    have := hsz _ hmem
    unfold maxLen at this; exact this
end

/-- A letter; a word. -/
def lowB (c : UInt8) : Bool := decide (97 ≤ (c.toNat : Int)) && decide ((c.toNat : Int) ≤ 122)
def lowS (s : ByteArray) : Bool := s.data.toList.all lowB
def wordB (s : ByteArray) : Bool := within s.size 1 10 && lowS s
theorem lowB_letters : ∀ c : UInt8, ([97, 98, 99, 100, 101, 102, 103, 104, 105, 106, 107, 108, 109, 110, 111, 112, 113, 114, 115, 116, 117, 118, 119, 120, 121, 122] : List UInt8).contains c = lowB c := by
  have h : ∀ n : Fin 256, ([97, 98, 99, 100, 101, 102, 103, 104, 105, 106, 107, 108, 109, 110, 111, 112, 113, 114, 115, 116, 117, 118, 119, 120, 121, 122] : List UInt8).contains (UInt8.ofNat n.val) = lowB (UInt8.ofNat n.val) := by decide +kernel
  intro c
  have := h ⟨c.toNat, c.toNat_lt⟩
  simpa using this
theorem dropWhile_nil {p : UInt8 → Bool} : ∀ l : List UInt8, l.dropWhile p = [] ↔ l.all p = true
  | [] => by simp
  | a :: r => by
    simp only [List.dropWhile, List.all_cons, Bool.and_eq_true]
    cases h : p a
    · simp
    · simp [dropWhile_nil r]
theorem trim_letters (s : ByteArray) : (Lib.trimS s.data.toList [97, 98, 99, 100, 101, 102, 103, 104, 105, 106, 107, 108, 109, 110, 111, 112, 113, 114, 115, 116, 117, 118, 119, 120, 121, 122]).isEmpty = lowS s := by
  have e : (fun x : UInt8 => ([97, 98, 99, 100, 101, 102, 103, 104, 105, 106, 107, 108, 109, 110, 111, 112, 113, 114, 115, 116, 117, 118, 119, 120, 121, 122] : List UInt8).contains x) = lowB := funext lowB_letters
  unfold Lib.trimS Lib.trimLeftS Lib.trimRightS lowS
  rw [e, Bool.eq_iff_iff, List.isEmpty_iff, dropWhile_nil, List.all_reverse]
  constructor
  · intro h
    have h2 : s.data.toList.reverse.dropWhile lowB = [] := by
      generalize s.data.toList.reverse = l at h
      induction l with
      | nil => rfl
      | cons a r ih =>
        simp only [List.dropWhile] at h ⊢
        cases hp : lowB a
        · rw [hp] at h; simp [hp] at h
        · rw [hp] at h; exact ih h
    rw [dropWhile_nil, List.all_reverse] at h2
    exact h2
  · intro h
    have h2 : s.data.toList.reverse.dropWhile lowB = [] := by rw [dropWhile_nil, List.all_reverse]; exact h
    rw [h2]; rfl
end Go.Proofs.YtjmfkenhnfdbjaaGreatDoor
