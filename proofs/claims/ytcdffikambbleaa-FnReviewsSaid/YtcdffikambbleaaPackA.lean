/- Texts of this claim in one: Cur, CurL, Code, CurG, RvDA, RvDB, RvDC, RvDD. No condition but those stated. -/
import Derived.Test.YtcdffikambbleaaMem
import Derived.Test.YtcdffikambbleaaIntsE
import Derived.Lib.LazyBuf
import Derived.ChangeSlices
import Derived.Test.YtcdffikambbleaaRevK
import Derived.Deep.RegionHeld3
import Derived.Deep.DrawnRows
/- The cursor that the draws read from. No condition but those stated. -/
namespace Go.Proofs.Ytcdffikambbleaa
set_option linter.unusedVariables false
set_option linter.unusedSimpArgs false
open Go.RowKit Go.Sort
/-- A cursor in block B: its three cells, and the bytes that it reads, which lie below B. -/
structure Cu (w : World) (B m : Nat) : Prop where
  lt : B < w.heap.size
  fz : ∀ i, w.frozen? ⟨B, i, none⟩ = false
  body : ∃ (A : Option Addr) (n cap : Nat) (f : Nat → Int) (a : Nat) (s : Int), w.cell? ⟨B, 0, none⟩ = some (.slice A n cap) ∧ w.cell? ⟨B, 1, none⟩ = some (.int .i64 a) ∧ w.cell? ⟨B, 2, none⟩ = some (.int .u64 s) ∧ a ≤ m ∧ n ≤ 9223372036854775807 ∧
    (∀ j, 0 ≤ f j ∧ f j ≤ 255) ∧ (0 < n → ∃ b off, A = some ⟨b, off, none⟩ ∧ b < B ∧ ∀ j, j < n → w.cell? ⟨b, off + j, none⟩ = some (.int .u8 (f j)))
theorem Cu.mono {w : World} {B m m' : Nat} (h : Cu w B m) (hm : m ≤ m') : Cu w B m' := by
  obtain ⟨h1, h2, A, n, cap, f, a, s, c0, c1, c2, ha, r⟩ := h
  exact ⟨h1, h2, A, n, cap, f, a, s, c0, c1, c2, Nat.le_trans ha hm, r⟩
theorem Cu.chg {w w' : World} {B m lo hi : Nat} (hc : Chg lo hi w w') (hl : B < lo) (h : Cu w B m) : Cu w' B m := by
  obtain ⟨h1, h2, A, n, cap, f, a, s, c0, c1, c2, ha, hn, hf, hr⟩ := h
  have hB := hc.block B h1 (.inl hl)
  refine ⟨Nat.lt_of_lt_of_le h1 hc.size, fun i => (World.frozen?_of_block (w := w) (a := ⟨B, i, none⟩) hB).trans (h2 i), A, n, cap, f, a, s, (World.cell?_of_block (w := w) (a := ⟨B, 0, none⟩) hB).trans c0, (World.cell?_of_block (w := w) (a := ⟨B, 1, none⟩) hB).trans c1, (World.cell?_of_block (w := w) (a := ⟨B, 2, none⟩) hB).trans c2, ha, hn, hf, fun h0 => ?_⟩
  obtain ⟨b, off, e, hb, hcell⟩ := hr h0
  exact ⟨b, off, e, hb, fun j hj => (World.cell?_of_block (w := w) (a := ⟨b, off + j, none⟩) (hc.block b (by omega) (.inl (by omega)))).trans (hcell j hj)⟩
theorem Cu.below {w w' : World} {B m : Nat} (hb : Below w.heap.size w w') (h : Cu w B m) : Cu w' B m :=
  h.chg (lo := B + 1) (hi := B + 1) (Chg.of_below hb) (by omega)
theorem Cu.drew {w : World} {B m : Nat} (h : Cu w B m) : Cu w.drew B m := ⟨h.1, h.2, h.3⟩
theorem Cu.step {w : World} {B m : Nat} {A : Option Addr} {n cap a : Nat} {f : Nat → Int} {s : Int} (s' : Int) (h1 : B < w.heap.size) (h2 : ∀ i, w.frozen? ⟨B, i, none⟩ = false)
    (c0 : w.cell? ⟨B, 0, none⟩ = some (.slice A n cap)) (c1 : w.cell? ⟨B, 1, none⟩ = some (.int .i64 a)) (c2 : w.cell? ⟨B, 2, none⟩ = some (.int .u64 s)) (ha : a ≤ m) (hn : n ≤ 9223372036854775807)
    (hf : ∀ j, 0 ≤ f j ∧ f j ≤ 255) (hr : 0 < n → ∃ b off, A = some ⟨b, off, none⟩ ∧ b < B ∧ ∀ j, j < n → w.cell? ⟨b, off + j, none⟩ = some (.int .u8 (f j))) :
    Cu ((w.setCell ⟨B, 1, none⟩ (.int .i64 ((a : Int) + 1))).setCell ⟨B, 2, none⟩ (.int .u64 s')) B (m + 1) := by
  have d1 : (w.setCell ⟨B, 1, none⟩ (.int .i64 ((a : Int) + 1))).cell? ⟨B, 2, none⟩ = some (.int .u64 s) := by
    rw [World.cell?_setCell_other _ _ _ _ (by intro h; injection h with _ h _; omega)]; exact c2
  refine ⟨by simpa [World.setCell] using h1, fun i => by rw [World.frozen?_setCell, World.frozen?_setCell]; exact h2 i, A, n, cap, f, a + 1, s', ?_, ?_, ?_, by omega, hn, hf, fun h0 => ?_⟩
  · rw [World.cell?_setCell_other _ _ _ _ (by intro h; injection h with _ h _; omega), World.cell?_setCell_other _ _ _ _ (by intro h; injection h with _ h _; omega)]; exact c0
  · rw [World.cell?_setCell_other _ _ _ _ (by intro h; injection h with _ h _; omega), World.cell?_setCell_same _ _ _ c1]; rfl
  · rw [World.cell?_setCell_same _ _ _ d1]
  · obtain ⟨b, off, e, hb, hcell⟩ := hr h0
    refine ⟨b, off, e, hb, fun j hj => ?_⟩
    rw [World.cell?_setCell_other _ _ _ _ (by intro h; injection h with h _ _; omega), World.cell?_setCell_other _ _ _ _ (by intro h; injection h with h _ _; omega)]; exact hcell j hj
theorem chg_step (w : World) (B : Nat) (u v : Value) : Chg B (B + 1) w ((w.setCell ⟨B, 1, none⟩ u).setCell ⟨B, 2, none⟩ v) :=
  ((Chg.refl _ _ _).setCell (p := ⟨B, 1, none⟩) (Nat.le_refl _) (Nat.lt_succ_self _) u).setCell (p := ⟨B, 2, none⟩) (Nat.le_refl _) (Nat.lt_succ_self _) v
theorem Chg.drew {lo hi : Nat} {w w' : World} (h : Chg lo hi w w') : Chg lo hi w w'.drew := ⟨h.os, h.tape, h.output, h.size, h.block⟩
theorem and255 (x : Int) : 0 ≤ wrap64 (bits .and .u64 x 255) ∧ wrap64 (bits .and .u64 x 255) ≤ 255 := by
  have h : ∃ n : Nat, n ≤ 255 ∧ bits .and .u64 x 255 = (n : Int) := by
    refine ⟨(BitVec.ofInt 64 x &&& BitVec.ofInt 64 255).toNat, ?_, ?_⟩
    · rw [BitVec.toNat_and]; exact Nat.and_le_right
    · have hb : (BitVec.ofInt 64 x &&& BitVec.ofInt 64 255).toNat ≤ 255 := by rw [BitVec.toNat_and]; exact Nat.and_le_right
      show IntKind.u64.wrap (((BitVec.ofInt 64 x &&& BitVec.ofInt 64 255).toNat : Nat) : Int) = _
      generalize (BitVec.ofInt 64 x &&& BitVec.ofInt 64 255).toNat = n at hb ⊢
      simp only [IntKind.wrap, IntKind.bits, IntKind.signed]
      simp
      omega
  obtain ⟨n, hn, e⟩ := h
  rw [e]
  unfold wrap64
  omega
set_option maxHeartbeats 2000000 in
set_option maxRecDepth 10000 in
theorem C_next (B m : Nat) (w : World) (h : Cu w B m) (hm : m ≤ 1099511627776) :
    Calls Try.prog 114 #[.pointer (some ⟨B, 0, none⟩)] w fun e w' => ∃ x : Int, e = .returned (.int .i64 x) ∧ (0 ≤ x ∧ x ≤ 255) ∧ Cu w' B (m + 1) ∧ Chg B (B + 1) w w' := by
  obtain ⟨h1, h2, A, n, cap, f, a, s, c0, c1, c2, ha, hn, hf, hr⟩ := h
  have HR := Lib.hid hr
  have HF := Lib.hid hf
  clear hr hf
  by_cases hlt : a < n
  · obtain ⟨b, off, rfl, hb, hcell⟩ := HR.out (by omega)
    have hck := hcell a hlt
    obtain ⟨f0, f1⟩ := HF.out a
    have hlt' : (a : Int) < (n : Int) := by omega
    have hne : b ≠ B := by omega
    clear hcell
    go_enter Try.func114, Try.ntmps114
    go_wp2
    go_region
    go_wp2
    go_region
    go_wp2
    go_region
    go_wp2
    go_ret
    refine ⟨_, rfl, ⟨f0, f1⟩, ?_, ?_⟩
    · exact (Cu.step _ h1 h2 c0 c1 c2 ha hn HF.out HR.out).drew.drew.drew
    · exact (chg_step _ _ _ _).drew.drew.drew
  · have hlt' : ¬ (a : Int) < (n : Int) := by omega
    go_enter Try.func114, Try.ntmps114
    go_wp2
    go_region
    go_wp2
    go_region
    go_wp2
    go_ret
    refine ⟨_, rfl, and255 _, ?_, ?_⟩
    · exact (Cu.step _ h1 h2 c0 c1 c2 ha hn HF.out HR.out).drew.drew
    · exact (chg_step _ _ _ _).drew.drew
end Go.Proofs.Ytcdffikambbleaa

/- What the draws of the cursor compute, as far as it matters. No condition but those stated. -/
namespace Go.Proofs.Ytcdffikambbleaa
set_option linter.unusedVariables false
set_option linter.unusedSimpArgs false
open Go.RowKit Go.Sort
theorem Chg.grown {B : Nat} {w w' : World} (h : Chg B (B + 1) w w') : w.grownBy w' (some B) :=
  ⟨h.os, h.tape, h.output, h.size, fun i hi hne => h.block i hi (by have : i ≠ B := (fun e => hne (by rw [e])); omega)⟩
theorem Chg.of_grown {B : Nat} {w w' : World} (h : w.grownBy w' (some B)) : Chg B (B + 1) w w' :=
  ⟨h.os, h.tape, h.output, h.size, fun i hi hr => h.block i hi (by intro e; injection e with e; omega)⟩
theorem C_pick (B m : Nat) (n : Int) (w : World) (h : Cu w B m) (hm : m ≤ 1099511627776) (h1 : 1 ≤ n) (h2 : n ≤ 200) :
    Calls Try.prog 98 #[.pointer (some ⟨B, 0, none⟩), .int .i64 n] w fun e w' => ∃ r : Int, e = .returned (.int .i64 r) ∧ (0 ≤ r ∧ r < n) ∧ Cu w' B (m + 1) ∧ w.grownBy w' (some B) := by
  by_cases h1' : n ≤ 1
  · go_enter Try.func98, Try.ntmps98
    go_wp2_with fail
    go_ret
    exact ⟨0, rfl, ⟨by omega, by omega⟩, h.mono (by omega), World.grownBy.refl _ _⟩
  · go_enter Try.func98, Try.ntmps98
    go_wp2_with fail
    refine (C_next B m _ h hm).mono ?_; rintro e w1 ⟨x, rfl, ⟨hx0, hx1⟩, hcu, hc⟩
    go_wp2_with fail
    go_ret
    exact ⟨_, rfl, ⟨Int.emod_nonneg _ (by omega), Int.emod_lt_of_pos _ (by omega)⟩, hcu, hc.grown⟩
theorem C_one (B m : Nat) (n : Int) (w : World) (h : Cu w B m) (hm : m ≤ 1099511627776) (h1 : 1 ≤ n) (h2 : n ≤ 200) :
    Calls Try.prog 106 #[.pointer (some ⟨B, 0, none⟩), .int .i64 n] w fun e w' => ∃ b : Bool, e = .returned (.bool b) ∧ Cu w' B (m + 1) ∧ w.grownBy w' (some B) := by
  go_enter Try.func106, Try.ntmps106
  go_wp2_with fail
  refine (C_pick B m n _ h hm h1 h2).mono ?_; rintro e w1 ⟨x, rfl, ⟨hx0, hx1⟩, hcu, hc⟩
  go_wp2_with fail
  go_ret
  exact ⟨_, rfl, hcu, hc⟩
theorem C_among (B m : Nat) (xs : List Int) (w : World) (h : Cu w B m) (hm : m ≤ 1099511627776) (h1 : 1 ≤ xs.length) (h2 : xs.length ≤ 200) :
    Calls Try.prog 97 #[.pointer (some ⟨B, 0, none⟩), .slice (some ⟨w.heap.size, 0, none⟩) xs.length xs.length] (w.alloc (.cells (xs.map (Value.int .i64)).toArray 3)) fun e w' => ∃ x : Int, e = .returned (.int .i64 x) ∧ x ∈ xs ∧ Cu w' B (m + 1) ∧ (w.alloc (.cells (xs.map (Value.int .i64)).toArray 3)).grownBy w' (some B) := by
  have hlt := h.lt
  obtain ⟨w0, hw0⟩ : ∃ w0, w0 = w.alloc (.cells (xs.map (Value.int .i64)).toArray 3) := ⟨_, rfl⟩
  have hcu0 : Cu w0 B m := by rw [hw0]; exact h.below ((Below.refl _ _).alloc (Nat.le_refl _) _)
  have hz0 : w0.heap.size = w.heap.size + 1 := by rw [hw0]; simp
  have hcells : ∀ j, j < xs.length → w0.cell? ⟨w.heap.size, j, none⟩ = some (.int .i64 (ai xs j)) := fun j hj => by
    rw [hw0]; exact cell_new _ _ _ _ _ (by rw [List.getElem?_toArray]; exact ai_map hj)
  have hmem : ∀ j, j < xs.length → ai xs j ∈ xs := fun j hj => List.mem_of_getElem? (ai_lt hj)
  rw [← hw0]
  obtain ⟨n, hn⟩ : ∃ n, xs.length = n := ⟨_, rfl⟩
  obtain ⟨g, hg⟩ : ∃ g, w.heap.size = g := ⟨_, rfl⟩
  rw [hn] at h1 h2 hcells hmem ⊢
  rw [hg] at hcells hz0 hlt ⊢
  have HC := Lib.hid hcells
  have HM := Lib.hid hmem
  clear hw0 hn hg hcells hmem h
  go_enter Try.func97, Try.ntmps97
  go_wp2_with fail
  refine (C_pick B m n _ hcu0 hm (by omega) (by omega)).mono ?_; rintro e w1 ⟨x, rfl, ⟨hx0, hx1⟩, hcu, hc⟩
  obtain ⟨r, rfl⟩ : ∃ r : Nat, x = (r : Int) := ⟨x.toNat, by omega⟩
  have hr : r < n := by omega
  have hck : w1.cell? ⟨g, r, none⟩ = some (.int .i64 (ai xs r)) := (World.cell?_of_block (w := w0) (a := ⟨g, r, none⟩) (hc.block g (by omega) (by intro e; injection e with e; omega))).trans (HC.out r hr)
  go_wp2_with fail
  go_ret
  exact ⟨_, rfl, HM.out r hr, hcu, hc⟩
end Go.Proofs.Ytcdffikambbleaa

/- The bytes that a law is handed: opened; the cursor at their start; whether they are too many. No condition but those stated. -/
namespace Go.Proofs.Ytcdffikambbleaa
set_option linter.unusedVariables false
set_option linter.unusedSimpArgs false
open Go.ChangeShapes Go.WideShapes Go.ChangeAt Go.RowKit Go.Deep Go.Joins
/-- The value v is a slice of n bytes. -/
def SU (w : World) (v : Value) (n : Nat) : Prop :=
  ∃ (A : Option Addr) (cap : Nat) (f : Nat → Int), v = .slice A n cap ∧ n ≤ 9223372036854775807 ∧ (∀ j, 0 ≤ f j ∧ f j ≤ 255) ∧ (0 < n → ∃ b off, A = some ⟨b, off, none⟩ ∧ b < w.heap.size ∧ ∀ j, j < n → w.cell? ⟨b, off + j, none⟩ = some (.int .u8 (f j)))
theorem SU.below {w w' : World} {v : Value} {n : Nat} (h : SU w v n) (hb : Below w.heap.size w w') : SU w' v n := by
  obtain ⟨A, cap, f, e, hn, hf, hr⟩ := h
  refine ⟨A, cap, f, e, hn, hf, fun h0 => ?_⟩
  obtain ⟨b, off, ea, hl, hc⟩ := hr h0
  exact ⟨b, off, ea, Nat.lt_of_lt_of_le hl hb.size, fun j hj => (hb.cell (p := ⟨b, off + j, none⟩) hl).trans (hc j hj)⟩
theorem Cu.start {w : World} {v : Value} {n : Nat} (h : SU w v n) (T : TypeId) : Cu (w.alloc (.cells #[v, .int .i64 0, .int .u64 0] T)) w.heap.size 0 := by
  obtain ⟨A, cap, f, rfl, hn, hf, hr⟩ := h
  refine ⟨by simp, fun i => by simp, A, n, cap, f, 0, 0, by simp, by simp, by simp, Nat.le_refl _, hn, hf, fun h0 => ?_⟩
  obtain ⟨b, off, ea, hl, hc⟩ := hr h0
  exact ⟨b, off, ea, hl, fun j hj => (World.cell?_alloc_lt _ _ _ hl).trans (hc j hj)⟩
section
variable {H : Type} {enc : TypeId × Value → H} {w : World} {base : Nat} {spare : Nat → Bool} {held : Bool}
theorem su_of_cells {a : Addr} {n : Nat} {f : Nat → Int} (h : ∀ i, i < n → w.cell? (a.add i) = some (.int .u8 (f i))) :
    0 < n → ∃ b off, some a = some ⟨b, off, none⟩ ∧ b < w.heap.size ∧ ∀ j, j < n → w.cell? ⟨b, off + j, none⟩ = some (.int .u8 (f j)) := fun h0 => by
  have h00 := h 0 h0
  obtain ⟨b, off, spot⟩ := a
  have hs : spot = none := by simpa [Addr.add] using World.cell?_spot h00
  subst hs
  refine ⟨b, off, rfl, ?_, fun j hj => ?_⟩
  · have := World.block_lt_of_cell? w _ h00
    simpa [Addr.add] using this
  · have := h j hj
    unfold Addr.add at this
    by_cases e : j = 0
    · subst e; simpa using this
    · rw [if_neg e] at this; exact this
theorem u8_wf {x : Int} (h : (Lit.int .u8 x).wf = true) : 0 ≤ x ∧ x ≤ 255 := by
  simp only [Lit.wf, IntKind.min, IntKind.max, IntKind.signed, IntKind.bits, Bool.and_eq_true, decide_eq_true_eq, Bool.false_eq_true, if_false] at h
  omega
set_option maxRecDepth 100000 in
theorem view_Suint8 {r : Reach} {b0 : Nat} {v : Value} {d : DataW H} {p : List MemPlace} (hv : Value.okWide Try.prog w r b0 64 v) (h : DataW.Trod enc Try.prog w base spare held 64 v d p) :
    ∃ n : Nat, SU w v n := by
  obtain ⟨a0, len0, cap0, rfl⟩ := okWide_slice Try.underlying64 hv
  obtain ⟨fuel, hf⟩ := h
  rcases open_ints Try.underlying64 Try.underlying5 (by kernel_rfl) hf with ⟨hcs, _⟩ | ⟨a, len, cap, zs, hcs, _, hl, hm, hz, _, hcell, hwz⟩
  · simp [Value.cells] at hcs
    obtain ⟨rfl, rfl, rfl⟩ := hcs
    exact ⟨0, none, 0, fun _ => 0, rfl, by omega, fun _ => (show (0 : Int) ≤ 0 ∧ (0 : Int) ≤ 255 from ⟨by decide, by decide⟩), fun h => absurd h (by omega)⟩
  · simp [Value.cells] at hcs
    obtain ⟨rfl, rfl, rfl⟩ := hcs
    have hle : len0 ≤ zs.length := by rw [hz]; split <;> omega
    refine ⟨len0, some a, cap0, fun j => zs.getD j 0, rfl, by unfold maxLen at hm; omega, fun j => ?_, su_of_cells fun i hi => hcell i (by omega)⟩
    show 0 ≤ zs.getD j 0 ∧ zs.getD j 0 ≤ 255
    rw [List.getD_eq_getElem?_getD]
    by_cases hj : j < zs.length
    · rw [List.getElem?_eq_getElem hj]
      exact u8_wf (hwz _ (List.getElem_mem _))
    · rw [List.getElem?_eq_none (by omega)]
      exact ⟨by decide, by decide⟩
end
theorem C_rBig (v : Value) (n : Nat) (w : World) (h : SU w v n) :
    Calls Try.prog 51 #[v] w fun e w' => e = .returned (.bool (decide (65536 < (n : Int)))) ∧ w = w' := by
  obtain ⟨A, cap, f, rfl, hn, hf, hr⟩ := h
  clear hr hf
  go_enter Try.func51, Try.ntmps51
  go_wp2
  go_ret
  exact ⟨rfl, rfl⟩
end Go.Proofs.Ytcdffikambbleaa

/- The cursor: what all draws share. No condition but those stated. -/
namespace Go.Proofs.Ytcdffikambbleaa
set_option linter.unusedVariables false
set_option linter.unusedSimpArgs false
open Go.RowKit Go.Sort
def isI : Value → Bool
  | .int .i64 _ => true
  | _ => false
def unI : Value → Int
  | .int _ x => x
  | _ => 0
theorem isI_un {v : Value} (h : isI v = true) : v = .int .i64 (unI v) := by
  cases v with
  | int k x => cases k <;> first | rfl | cases h
  | _ => cases h
def isT : Value → Bool
  | .string _ => true
  | _ => false
def unT : Value → ByteArray
  | .string x => x
  | _ => ByteArray.empty
theorem isT_un {v : Value} (h : isT v = true) : v = .string (unT v) := by
  cases v with
  | string x => rfl
  | _ => cases h
theorem SU.form {w : World} {v : Value} {n : Nat} (h : SU w v n) : ∃ A cap, v = .slice A n cap := by
  obtain ⟨A, cap, f, e, _⟩ := h; exact ⟨A, cap, e⟩
theorem Chg.setNew {lo hi : Nat} {a b : World} (h : Chg lo hi a b) {p : Addr} (hp : a.heap.size ≤ p.block) (u : Value) : Chg lo hi a (b.setCell p u) :=
  ⟨h.os, h.tape, h.output, by simpa [World.setCell] using h.size, fun k hk hr => (Below.heap_setCell _ _ _ _ (by omega)).trans (h.block k hk hr)⟩
theorem Chg.alloc {lo hi : Nat} {a b : World} (h : Chg lo hi a b) (o : Obj) : Chg lo hi a (b.alloc o) :=
  h.trans (Chg.of_below ((Below.refl _ _).alloc (Nat.le_refl _) o))
theorem Chg.regrown {lo hi : Nat} {a b : World} (h : Chg lo hi a b) (d : Nat) (os : Array Obj) : Chg lo hi a (grow (redrawn b d) os) :=
  h.trans (Chg.of_below (below_regrown _ _ _))
theorem Cu.alloc {w : World} {B m : Nat} (h : Cu w B m) (o : Obj) : Cu (w.alloc o) B m := h.below ((Below.refl _ _).alloc (Nat.le_refl _) o)
theorem Cu.setFar {w : World} {B m : Nat} (h : Cu w B m) {p : Addr} (hp : B < p.block) (u : Value) : Cu (w.setCell p u) B m :=
  h.chg (lo := p.block) (hi := p.block + 1) ((Chg.refl _ _ _).setCell (Nat.le_refl _) (Nat.lt_succ_self _) u) hp
theorem row_chg {w w' : World} {g n : Nat} {T : TypeId} {F : Nat → Value} {lo hi : Nat} (h : w.rowIs g T n F) (hc : Chg lo hi w w') (hr : g < lo ∨ hi ≤ g) : w'.rowIs g T n F := h.of_block (hc.block g h.lt hr)
theorem row_alloc {w : World} {g n : Nat} {T : TypeId} {F : Nat → Value} (h : w.rowIs g T n F) (o : Obj) : (w.alloc o).rowIs g T n F := h.of_block (Below.heap_alloc _ _ _ h.lt)
/-- A row that is just made out of a literal. -/
theorem row_lit (w : World) (cs : Array Value) (T : TypeId) : (w.alloc (.cells cs T)).rowIs w.heap.size T cs.size (fun j => cs.getD j undef) :=
  World.rowIs_alloc w cs T _ (fun i hi => by simp [Array.getD, hi])
theorem lit_get {cs : Array Value} {q : Value → Bool} (h : cs.toList.all q = true) {j : Nat} (hj : j < cs.size) : q (cs.getD j undef) = true := by
  have e : cs.getD j undef = cs[j] := by simp [Array.getD, hj]
  rw [e]
  exact List.all_eq_true.1 h _ (by simp)
theorem C_amongR (B m : Nat) (cs : Array Value) (n cap g : Nat) (w : World) (T : TypeId) (hrow : w.rowIs g T cs.size (fun j => cs.getD j undef)) (hg : g ≠ B) (h : Cu w B m) (hm : m ≤ 1099511627776) (h1 : 1 ≤ n) (hn : n ≤ cs.size) (h2 : n ≤ 200)
    (p : Int → Bool) (hall : cs.toList.all (fun v => isI v && p (unI v)) = true) :
    Calls Try.prog 97 #[.pointer (some ⟨B, 0, none⟩), .slice (some ⟨g, 0, none⟩) n cap] w fun e w' => ∃ x : Int, e = .returned (.int .i64 x) ∧ p x = true ∧ Cu w' B (m + 1) ∧ w.grownBy w' (some B) := by
  have hlt := h.lt
  have hgl := hrow.lt
  have hcells : ∀ j, j < n → ∃ y, w.cell? ⟨g, j, none⟩ = some (.int .i64 y) ∧ p y = true := fun j hj => by
    have hq := lit_get hall (show j < cs.size by omega)
    simp only [Bool.and_eq_true] at hq
    refine ⟨unI (cs.getD j undef), ?_, hq.2⟩
    rw [hrow.cell (i := j) (by omega)]
    exact congrArg some (isI_un hq.1)
  have HC := Lib.hid hcells
  have hg' : g ≠ B := hg
  clear hcells hrow hall hg hn
  go_enter Try.func97, Try.ntmps97
  go_wp2_with fail
  refine (C_pick B m n _ h hm (by omega) (by omega)).mono ?_; rintro e w1 ⟨x, rfl, ⟨hx0, hx1⟩, hcu, hc⟩
  obtain ⟨r, rfl⟩ : ∃ r : Nat, x = (r : Int) := ⟨x.toNat, by omega⟩
  have hr : r < n := by omega
  obtain ⟨y, hy, hp⟩ := HC.out r hr
  have hck : w1.cell? ⟨g, r, none⟩ = some (.int .i64 y) := (World.cell?_of_block (w := w) (a := ⟨g, r, none⟩) (hc.block g hgl (by intro e; injection e with e; exact hg' e))).trans hy
  have HP := Lib.hid hp
  clear hy hp
  go_wp2_with fail
  go_ret
  exact ⟨_, rfl, HP.out, hcu, hc⟩
def anyI (_ : Int) : Bool := true
def i64B (x : Int) : Bool := decide (-9223372036854775808 ≤ x) && decide (x ≤ 9223372036854775807)
theorem i64_of {x : Int} (h : i64B x = true) : I64 x := by simpa [i64B, I64] using h
end Go.Proofs.Ytcdffikambbleaa

/- Reviews that are drawn. No condition but those stated. -/
namespace Go.Proofs.Ytcdffikambbleaa
set_option linter.unusedVariables false
set_option linter.unusedSimpArgs false
open Go.RowKit Go.Sort
attribute [local go_sem ↓] Go.wp_at_zero Go.wp_at_succ
def c3v (rid due : Int) (v : Value) (m : Nat) : Value := if m = 0 then .int .i64 rid else if m = 1 then .int .i64 due else v
theorem row3_alloc (w : World) (t : TypeId) (rid due : Int) (v : Value) : (w.alloc (.cells #[.int .i64 rid, .int .i64 due, v] t)).rowIs w.heap.size t 3 (c3v rid due v) :=
  World.rowIs_alloc w #[.int .i64 rid, .int .i64 due, v] t (c3v rid due v) (fun i hi => by
    match i, hi with
    | 0, _ => rfl
    | 1, _ => rfl
    | 2, _ => rfl
    | n + 3, h => exact absurd h (by simp))
theorem C_amongL (B m : Nat) (cs : Array Value) (n cap g : Nat) (w : World) (T : TypeId) (hg : w.heap.size = g) (h : Cu w B m) (hm : m ≤ 1099511627776) (h1 : 1 ≤ n) (hn : n ≤ cs.size) (h2 : n ≤ 200)
    (p : Int → Bool) (hall : cs.toList.all (fun v => isI v && p (unI v)) = true) :
    Calls Try.prog 97 #[.pointer (some ⟨B, 0, none⟩), .slice (some ⟨g, 0, none⟩) n cap] (w.alloc (.cells cs T)) fun e w' => ∃ x : Int, e = .returned (.int .i64 x) ∧ p x = true ∧ Cu w' B (m + 1) ∧ w.grownBy w' (some B) := by
  subst hg
  have hl := h.lt
  refine (C_amongR B m cs n cap _ _ T (row_lit w cs T) (by omega) (h.alloc _) hm h1 hn h2 p hall).mono ?_
  rintro e w' ⟨x, rfl, hp, hc, hb⟩
  exact ⟨x, rfl, hp, hc, ((Chg.of_below (lo := B) (hi := B + 1) ((Below.refl _ _).alloc (Nat.le_refl _) _)).trans (Chg.of_grown hb)).grown⟩
theorem C_amongD (B m : Nat) (cs : Array Value) (n cap g : Nat) (w : World) (T : TypeId) (hg : w.heap.size = g) (h : Cu w B m) (hm : m ≤ 1099511627776) (h1 : 1 ≤ n) (hn : n ≤ cs.size) (h2 : n ≤ 200)
    (p : Int → Bool) (hall : cs.toList.all (fun v => isI v && p (unI v)) = true) :
    Calls Try.prog 97 #[.pointer (some ⟨B, 0, none⟩), .slice (some ⟨g, 0, none⟩) n cap] (w.alloc (.cells cs T)).drew fun e w' => ∃ x : Int, e = .returned (.int .i64 x) ∧ p x = true ∧ Cu w' B (m + 1) ∧ w.grownBy w' (some B) := by
  subst hg
  have hl := h.lt
  refine (C_amongR B m cs n cap w.heap.size (w.alloc (.cells cs T)).drew T (show (w.alloc (.cells cs T)).drew.rowIs w.heap.size T cs.size (fun j => cs.getD j undef) from row_lit w cs T) (by omega) (h.alloc _).drew hm h1 hn h2 p hall).mono ?_
  rintro e w' ⟨x, rfl, hp, hc, hb⟩
  exact ⟨x, rfl, hp, hc, ((Chg.of_below (lo := B) (hi := B + 1) ((Below.refl _ _).alloc (Nat.le_refl _) _)).drew.trans (Chg.of_grown hb)).grown⟩
/-- What the drawing of a review keeps. -/
structure RB (B m g0 gx : Nat) (w W : World) (rid due : Int) (v : Value) : Prop where
  cu : Cu W B m
  ch : Chg B (B + 1) w W
  r0 : W.rowIs g0 27 3 (c3v 0 0 (.slice none 0 0))
  rx : W.rowIs gx 27 3 (c3v rid due v)
  hw : w.heap.size ≤ g0
  l0 : B < g0
  lx : g0 < gx
theorem RB.step {B m m' g0 gx : Nat} {w W W' : World} {rid due : Int} {v : Value} (h : RB B m g0 gx w W rid due v) (hc : Chg B (B + 1) W W') (hcu : Cu W' B m') : RB B m' g0 gx w W' rid due v :=
  ⟨hcu, h.ch.trans hc, row_chg h.r0 hc (.inr h.l0), row_chg h.rx hc (.inr (Nat.lt_trans h.l0 h.lx)), h.hw, h.l0, h.lx⟩
theorem RB.below {B m g0 gx : Nat} {w W W' : World} {rid due : Int} {v : Value} (h : RB B m g0 gx w W rid due v) (hb : Below W.heap.size W W') : RB B m g0 gx w W' rid due v := h.step (Chg.of_below hb) (h.cu.below hb)
theorem RB.alloc {B m g0 gx : Nat} {w W : World} {rid due : Int} {v : Value} (h : RB B m g0 gx w W rid due v) (o : Obj) : RB B m g0 gx w (W.alloc o) rid due v := h.below ((Below.refl _ _).alloc (Nat.le_refl _) o)
theorem RB.drew {B m g0 gx : Nat} {w W : World} {rid due : Int} {v : Value} (h : RB B m g0 gx w W rid due v) : RB B m g0 gx w W.drew rid due v := h.step (Chg.refl _ _ _).drew h.cu.drew
theorem RB.mono {B m m' g0 gx : Nat} {w W : World} {rid due : Int} {v : Value} (h : RB B m g0 gx w W rid due v) (hm : m ≤ m') : RB B m' g0 gx w W rid due v := ⟨h.cu.mono hm, h.ch, h.r0, h.rx, h.hw, h.l0, h.lx⟩
theorem RB.grow {B m g0 gx : Nat} {w W W' : World} {rid due : Int} {v u : Value} (h : RB B m g0 gx w W rid due v) (hg : W.grownBy W' u.ownBlock) (hv : ∀ k, u.ownBlock = some k → gx < k) : RB B m g0 gx w W' rid due v := by
  have hc : Chg (gx + 1) (max (gx + 1) W.heap.size) W W' := ⟨hg.os, hg.tape, hg.output, hg.size, fun k hk hr => hg.block k hk (fun e => by have := hv k e.symm; omega)⟩
  have h1 := h.l0
  have h2 := h.lx
  have h3 := h.hw
  exact ⟨h.cu.chg hc (by omega), ⟨hc.os.trans h.ch.os, hc.tape.trans h.ch.tape, hc.output.trans h.ch.output, Nat.le_trans h.ch.size hc.size, fun k hk hr => (hc.block k (Nat.lt_of_lt_of_le hk h.ch.size) (.inl (by omega))).trans (h.ch.block k hk hr)⟩,
    row_chg h.r0 hc (.inl (by omega)), row_chg h.rx hc (.inl (by omega)), h3, h1, h2⟩
theorem c3v_set0 (rid due y : Int) (v : Value) (i : Nat) : (if i = 0 then Value.int .i64 y else c3v rid due v i) = c3v y due v i := by
  unfold c3v; split <;> simp_all
theorem c3v_set1 (rid due y : Int) (v : Value) (i : Nat) : (if i = 1 then Value.int .i64 y else c3v rid due v i) = c3v rid y v i := by
  unfold c3v; split <;> simp_all
theorem c3v_set2 {rid due : Int} {v u : Value} {i : Nat} (hi : i < 3) : (if i = 2 then u else c3v rid due v i) = c3v rid due u i := by
  match i, hi with
  | 0, _ => rfl
  | 1, _ => rfl
  | 2, _ => rfl
theorem RB.set {B m g0 gx i : Nat} {w W : World} {rid due rid' due' : Int} {v v' u : Value} (h : RB B m g0 gx w W rid due v) (e : ∀ j, j < 3 → (if j = i then u else c3v rid due v j) = c3v rid' due' v' j) :
    RB B m g0 gx w (W.setCell ⟨gx, i, none⟩ u) rid' due' v' := by
  have h1 := h.l0
  have h2 := h.lx
  have h3 := h.hw
  refine ⟨h.cu.setFar (p := ⟨gx, i, none⟩) (by simp; omega) _, h.ch.setNew (p := ⟨gx, i, none⟩) (by simp; omega) _, h.r0.setOther (a := ⟨gx, i, none⟩) (by simp; omega) _, ?_, h3, h1, h2⟩
  exact (h.rx.set i u).congr e
theorem OI.form {base : Nat} {w : World} {v : Value} {xs : List Int} (h : OI base w v xs) : ∃ A cap, v = .slice A xs.length cap := by
  obtain ⟨A, cap, e, _⟩ := h.wi.si
  exact ⟨A, cap, e⟩
theorem OI.setFar {base : Nat} {w : World} {v : Value} {xs : List Int} (h : OI base w v xs) {p : Addr} (hp : p.block < base) (u : Value) : OI base (w.setCell p u) v xs :=
  h.of_block fun g hg => Below.heap_setCell _ _ _ _ (by have := (World.ownsRow.lt h g hg).1; omega)
theorem OI.chg {base lo hi : Nat} {w w' : World} {v : Value} {xs : List Int} (hc : Chg lo hi w w') (hl : hi ≤ base) (h : OI base w v xs) : OI base w' v xs :=
  h.of_block fun g hg => hc.block g (World.ownsRow.lt h g hg).2 (.inr (by have := (World.ownsRow.lt h g hg).1; omega))
theorem OI.rowAt {w : World} {g : Nat} (hg : w.heap.size = g) (cs : Array Value) (xs : List Int) (base : Nat) (hb : base ≤ w.heap.size) (hx : cs.toList = xs.map (Value.int .i64)) (hn : xs.length ≤ 9223372036854775807) : OI base (w.alloc (.cells cs 3)) (.slice (some ⟨g, 0, none⟩) xs.length xs.length) xs := by
  subst hg
  have hl : cs.size = xs.length := by rw [← Array.length_toList, hx, List.length_map]
  exact ⟨by simp, .inr ⟨w.heap.size, xs.length, cs, rfl, hb, heap_alloc_new w _, Nat.le_refl _, by unfold maxLen; exact hn, by rw [hl, Nat.mul_one], by rw [hx, Nat.mul_one, List.take_of_length_le (by simp)]⟩⟩
/-- Appending one number at a step of a region that draws its order. -/
theorem step_app1 (w : World) {ops : Array Oper} {o : Oper} {a : Act} {K : Act → World → Prop} {Q : Exit → Act → World → Prop} {E : Prop} (hgd : o.guard = none) (s x : Operand)
    (ho : o.op = .call { callee := .builtin .append, args := #[s, x], argTypes := #[22, 22] })
    (base : Nat) (v : Value) (xs : List Int) (hs : a.eval s = v) (hown : OI base w v xs) (A : Option Addr) (c : Nat) (y : Int) (hx : a.eval x = .slice A 1 c) (hr : SI w (.slice A 1 c) 1 (fun _ => y))
    (hlen : xs.length + 1 ≤ 1099511627776) (hbase : base ≤ w.heap.size)
    (h : ∀ v' w', OI base w' v' (xs ++ [y]) → w.grownBy w' v.ownBlock → K (a.put o.dst v') w') : if Region.wanted o (yielded ops a.tmps) = true then Oper.wp Try.prog o a w K Q else E := by
  obtain ⟨i0, hi, hz0, hz1, hz2⟩ := info_parts info_int
  refine step_append_any w hgd s x 22 ho base 3 i0 (.int .i64 0) 1 8 Try.underlying22 hi hz0 hz1 hz2 rfl (by omega) v xs.length (xs.map (Value.int .i64)) hs hown w.heap.size A 1 c _ hx hr.reads
    (fun u hu => ?_) (by unfold maxLen; omega) (by omega) hbase (fun v' w' h1 h2 _ => h v' w' ?_ h2)
  · obtain ⟨y, _, rfl⟩ := List.mem_map.1 hu; rfl
  · unfold OI; rw [List.length_append, List.map_append]; exact h1
/-- One number that is just laid. -/
theorem si_one (w : World) (x : Int) (T : TypeId) : SI (w.alloc (.cells #[.int .i64 x] T)) (.slice (some ⟨w.heap.size, 0, none⟩) 1 1) 1 (fun _ => x) :=
  ⟨_, _, rfl, fun _ => ⟨w.heap.size, 0, rfl, by simp, fun j hj => by
    obtain rfl : j = 0 := by omega
    exact cell_new w _ _ 0 _ rfl⟩, Nat.le_refl _, by omega⟩
end Go.Proofs.Ytcdffikambbleaa

/- One review that is drawn. No condition but those stated. -/
namespace Go.Proofs.Ytcdffikambbleaa
set_option linter.unusedVariables false
set_option linter.unusedSimpArgs false
open Go.RowKit Go.Sort
attribute [local go_sem ↓] Go.wp_at_zero Go.wp_at_succ
theorem RB.cells {B m g0 gx : Nat} {w W : World} {rid due : Int} {v : Value} (h : RB B m g0 gx w W rid due v) :
    W.cell? ⟨gx, 0, none⟩ = some (.int .i64 rid) ∧ W.cell? ⟨gx, 1, none⟩ = some (.int .i64 due) ∧ W.cell? ⟨gx, 2, none⟩ = some v ∧ W.frozen? ⟨gx, 0, none⟩ = false ∧ W.frozen? ⟨gx, 1, none⟩ = false ∧ W.frozen? ⟨gx, 2, none⟩ = false ∧
    W.cell? ⟨g0, 0, none⟩ = some (.int .i64 0) ∧ W.cell? ⟨g0, 1, none⟩ = some (.int .i64 0) ∧ W.cell? ⟨g0, 2, none⟩ = some (.slice none 0 0) ∧ W.frozen? ⟨g0, 0, none⟩ = false ∧ W.frozen? ⟨g0, 1, none⟩ = false ∧ W.frozen? ⟨g0, 2, none⟩ = false :=
  ⟨h.rx.cell (i := 0) (by omega), h.rx.cell (i := 1) (by omega), h.rx.cell (i := 2) (by omega), h.rx.frozen 0, h.rx.frozen 1, h.rx.frozen 2, h.r0.cell (i := 0) (by omega), h.r0.cell (i := 1) (by omega), h.r0.cell (i := 2) (by omega), h.r0.frozen 0, h.r0.frozen 1, h.r0.frozen 2⟩
theorem form1 {base : Nat} {w : World} {v : Value} {xs : List Int} {y : Int} (h : OI base w v (xs ++ [y])) : ∃ A cap, v = .slice A (xs.length + 1) cap := by
  obtain ⟨A, cap, e⟩ := h.form
  exact ⟨A, cap, by rw [e]; simp⟩
set_option maxRecDepth 100000 in
set_option maxHeartbeats 4000000 in
theorem C_review (B m : Nat) (r : Int) (w : World) (hcu : Cu w B m) (hm : m ≤ 900000) :
    Calls Try.prog 107 #[.pointer (some ⟨B, 0, none⟩), .int .i64 r] w fun e w' => ∃ (x : Rl) (v : Value), e = .returned (.agg #[.int .i64 x.rid, .int .i64 x.due, v]) ∧ OI w.heap.size w' v x.vs ∧ x.vs.length ≤ 7 ∧ Cu w' B (m + 20) ∧ w.grownBy w' (some B) := by
  have hlt := hcu.lt
  obtain ⟨g0, hg0⟩ : ∃ g, g = w.heap.size := ⟨_, rfl⟩
  obtain ⟨w0, hw0⟩ : ∃ w0, w0 = w.alloc (.cells #[.int .i64 0, .int .i64 0, .slice none 0 0] 27) := ⟨_, rfl⟩
  have hbw : Below w.heap.size w w0 := by rw [hw0]; (repeat (first | with_reducible exact Below.refl _ _ | with_reducible exact below_regrown _ _ _ | with_reducible refine bel_step0 (by assumption) ?_ | with_reducible refine bel_alloc0 ?_ _ | with_reducible refine bel_regrown0 ?_ _ _ | with_reducible refine bel_regrown ?_ (by first | omega | (simp; done) | (simp; omega)) _ _ | with_reducible refine below_drewN ?_ _ | with_reducible refine Below.drew ?_ | with_reducible refine Below.alloc ?_ (by first | omega | (simp; done) | (simp; omega)) _ | with_reducible refine Below.setCell ?_ (by first | omega | (simp; done) | (simp; omega)) _ | with_reducible refine bel_step (by assumption) (by first | omega | (simp; done) | (simp; omega)) ?_ | with_reducible refine bel_grown (by assumption) (by first | omega | (simp; done) | (simp; omega)) (by first | omega | (simp; done) | (simp; omega)) ?_))
  have r00 : w0.rowIs g0 27 3 (c3v 0 0 (.slice none 0 0)) := by rw [hw0, hg0]; exact row3_alloc w _ 0 0 _
  have cu0 := hcu.below hbw
  have HW0 := Lib.hid hw0.symm
  have HZ0 := Lib.hid (show w0.heap.size = g0 + 1 by rw [hw0, hg0]; simp)
  have HG0 := Lib.hid hg0.symm
  have HX := Lib.hid (And.intro hbw (And.intro r00 cu0))
  have hBg : B < g0 := by omega
  have hg0w : w.heap.size ≤ g0 := by omega
  clear hw0 hbw r00 cu0 hcu hg0 hlt
  go_enter Try.func107, Try.ntmps107
  go_wp2_with fail
  rw [HW0.out, HG0.out]
  refine (C_amongL B m _ 6 6 _ w0 _ HZ0.out HX.out.2.2 (by omega) (by omega) (by decide) (by omega) anyI (by rfl)).mono ?_; rintro e w1 ⟨d, rfl, _, cu1, hb1⟩
  have hc1 := Chg.of_grown hb1
  obtain ⟨gx, hgx⟩ : ∃ g, g = w1.heap.size := ⟨_, rfl⟩
  obtain ⟨w2, hw2⟩ : ∃ w2, w2 = w1.alloc (.cells #[.int .i64 r, .int .i64 d, .slice none 0 0] 27) := ⟨_, rfl⟩
  have R2 : RB B (m + 1) g0 gx w w2 r d (.slice none 0 0) := by
    have z1 := hc1.size
    have z0 := HZ0.out
    rw [hw2]
    exact ⟨cu1.alloc _, ((Chg.of_below HX.out.1).trans hc1).alloc _, row_alloc (row_chg HX.out.2.1 hc1 (.inr hBg)) _, by rw [hgx]; exact row3_alloc w1 _ r d _, hg0w, hBg, by omega⟩
  have R2 := Lib.hid R2
  have HW2 := Lib.hid hw2.symm
  have HGX := Lib.hid hgx.symm
  clear hw2 hgx hc1 hb1 cu1 HX HZ0 HG0 HW0
  go_upto_region 2 with fail
  rw [HW2.out, HGX.out]
  clear HW2 HGX
  go_wp2_with fail
  refine (C_pick B _ 6 w2 R2.out.cu (by omega) (by omega) (by omega)).mono ?_; rintro e w3 ⟨n0, rfl, ⟨hn0, hn1⟩, cu3, hb3⟩
  have R3 := Lib.hid (R2.out.step (Chg.of_grown hb3) cu3)
  clear cu3 hb3 R2
  go_wp2
  go_loopw [6] (fun i wr => ∃ (k : Nat) (v : Value) (xs : List Int), k ≤ 5 ∧ i = .int .i64 k ∧ xs.length + k ≤ 5 ∧ OI (gx + 1) wr v xs ∧ RB B (m + 2 + (5 - k)) g0 gx w wr r d v) (fun i _ => (intOf i).toNat)
  case atStart => exact ⟨n0.toNat, _, [], by omega, by rw [Int.toNat_of_nonneg hn0], by simp; omega, OI.nil _ _, R3.out.mono (by omega)⟩
  case round =>
    clear R3 hn0 hn1
    obtain ⟨k, v, xs, hk, rfl, hxs, ho, hR⟩ := hrel
    have HR := Lib.hid hR
    have HO := Lib.hid ho
    clear ho
    by_cases hlt : 0 < k
    · have hlt2 : (0 : Int) < (k : Int) := by omega
      have hk1 : Value.int .i64 ((k : Int) - 1) = .int .i64 ((k - 1 : Nat) : Int) := by rw [show ((k - 1 : Nat) : Int) = (k : Int) - 1 by omega]
      have HK1 := Lib.hid hk1
      clear hk1
      obtain ⟨x0, x1, x2, f0, f1, f2, y0, y1, y2, e0, e1, e2⟩ := RB.cells hR; have hgn := RB.lx hR; have hgl := (RB.rx hR).lt; have hg0l := (RB.r0 hR).lt; have hgB := RB.l0 hR; have hne := Nat.ne_of_lt hgn; have hne' := hne.symm
      clear hR
      go_upto_region 5 with fail
      have hBx : B + 1 ≤ gx + 1 := by omega
      have hM : m + 2 + (5 - k) + 1 ≤ m + 2 + (5 - (k - 1)) := by omega
      have hk5 : k - 1 ≤ 5 := by omega
      go_region_law (first | (go_simp; go_at_call 97; refine (C_amongD B _ _ 5 5 _ _ _ (by rfl) HR.out.cu (by omega) (by omega) (by decide) (by omega) anyI (by rfl)).mono ?_; rintro e w1 ⟨y, rfl, _, cu1, hb1⟩; have R1 := Lib.hid (show RB B _ g0 gx w w1 r d v from HR.out.step (Chg.of_grown hb1) cu1); have O1 := Lib.hid (OI.chg (Chg.of_grown hb1) hBx HO.out); clear hb1 cu1; clear x0 x1 x2 f0 f1 f2 y0 y1 y2 e0 e1 e2 hgn hgl hg0l hgB hne hne'; have hR1 := R1.out; obtain ⟨x0, x1, x2, f0, f1, f2, y0, y1, y2, e0, e1, e2⟩ := RB.cells hR1; have hgn := RB.lx hR1; have hgl := (RB.rx hR1).lt; have hg0l := (RB.r0 hR1).lt; have hgB := RB.l0 hR1; have hne := Nat.ne_of_lt hgn; have hne' := hne.symm; clear hR1) | (refine step_app1 _ (by rfl) (.tmp 19) (.tmp 23) (by rfl) (gx + 1) _ xs (by rfl) (O1.out.alloc _) _ _ y (by rfl) (si_one _ _ _) (by omega) (by simp; omega) ?_; intro v1 w3 ho1 hg1; have R2 := Lib.hid (RB.grow (R1.out.alloc _) hg1 (fun q hq => (World.ownsRow.lt O1.out q hq).1)); have O2 := Lib.hid ho1; obtain ⟨VA, vc, rfl⟩ := form1 ho1; clear ho1 hg1; clear x0 x1 x2 f0 f1 f2 y0 y1 y2 e0 e1 e2 hgn hgl hg0l hgB hne hne'; have hR2 := R2.out; obtain ⟨x0, x1, x2, f0, f1, f2, y0, y1, y2, e0, e1, e2⟩ := RB.cells hR2; have hgn := RB.lx hR2; have hgl := (RB.rx hR2).lt; have hg0l := (RB.r0 hR2).lt; have hgB := RB.l0 hR2; have hne := Nat.ne_of_lt hgn; have hne' := hne.symm; clear hR2))
      all_goals
        go_wp2
        clear x0 x1 x2 f0 f1 f2 y0 y1 y2 e0 e1 e2 hgn hgl hg0l hgB hne hne'
        go_roundw
        case rel => exact ⟨k - 1, _, xs ++ [y], hk5, HK1.out, by simp; omega, O2.out.setFar (by simp) _, (R2.out.set fun j hj => c3v_set2 hj).mono hM⟩
        case measure => simp [intOf]; omega
    · obtain rfl : k = 0 := by omega
      have hz : ¬ (0 : Int) < ((0 : Nat) : Int) := by omega
      obtain ⟨VA, vc, rfl⟩ := HO.out.form
      have hxs5 : xs.length ≤ 5 := by omega
      have hgl := hR.rx.lt
      have hl0 := hR.l0
      have hlx := hR.lx
      clear hR hxs
      go_wp2_with fail
      refine (C_pick B _ 70 _ HR.out.cu (by omega) (by omega) (by omega)).mono ?_; rintro e w7 ⟨q, rfl, ⟨hq0, hq1⟩, cu7, hb7⟩
      have R7 := Lib.hid (HR.out.step (Chg.of_grown hb7) cu7)
      have O7 := Lib.hid (OI.chg (Chg.of_grown hb7) (by omega) HO.out)
      clear cu7 hb7 HR HO hgl
      have hR := R7.out
      obtain ⟨x0, x1, x2, f0, f1, f2, y0, y1, y2, e0, e1, e2⟩ := RB.cells hR; have hgn := RB.lx hR; have hgl := (RB.rx hR).lt; have hg0l := (RB.r0 hR).lt; have hgB := RB.l0 hR; have hne := Nat.ne_of_lt hgn; have hne' := hne.symm
      clear hR
      go_wp2_with fail
      · clear x0 x1 x2 f0 f1 f2 y0 y1 y2 e0 e1 e2 hgn hgl hg0l hgB hne hne'
        refine (C_amongL B _ _ 3 3 _ w7 _ (by rfl) R7.out.cu (by omega) (by omega) (by decide) (by omega) anyI (by rfl)).mono ?_; rintro e w8 ⟨y, rfl, _, cu8, hb8⟩
        have R8 := Lib.hid (R7.out.step (Chg.of_grown hb8) cu8)
        have O8 := Lib.hid (OI.chg (Chg.of_grown hb8) (by omega) O7.out)
        clear cu8 hb8
        have hR := R8.out
        obtain ⟨x0, x1, x2, f0, f1, f2, y0, y1, y2, e0, e1, e2⟩ := RB.cells hR; have hgn := RB.lx hR; have hgl := (RB.rx hR).lt; have hg0l := (RB.r0 hR).lt; have hgB := RB.l0 hR; have hne := Nat.ne_of_lt hgn; have hne' := hne.symm
        clear hR
        go_wp2_with fail
        (go_light; refine bodyPost_ret (by simp (maxDischargeDepth := 3) [results, Try.results107, go_sem, *]; try rfl) rfl ?_; refine ⟨⟨_, _, xs⟩, _, rfl, ?_, (show xs.length ≤ 7 by omega), ?_, ?_⟩; (next => (refine OI.mono (base := gx + 1) (by omega) ?_; (repeat (with_reducible refine OI.setFar ?_ (by first | omega | (simp; done) | (simp; omega)) _)); exact O8.out)); (next => ((repeat (first | with_reducible refine Cu.alloc ?_ _ | with_reducible refine Cu.setFar ?_ (by first | omega | (simp; done) | (simp; omega)) _)); exact Cu.mono (RB.cu R8.out) (by omega))); (next => (refine Chg.grown ?_; (repeat (first | with_reducible refine Chg.alloc ?_ _ | with_reducible refine Chg.setNew ?_ (by first | omega | (simp; done) | (simp; omega)) _)); exact RB.ch R8.out)))
      · clear x0 x1 x2 f0 f1 f2 y0 y1 y2 e0 e1 e2 hgn hgl hg0l hgB hne hne'
        refine (C_amongL B _ _ 2 2 _ w7 _ (by rfl) R7.out.cu (by omega) (by omega) (by decide) (by omega) anyI (by rfl)).mono ?_; rintro e w8 ⟨y, rfl, _, cu8, hb8⟩
        have R8 := Lib.hid (R7.out.step (Chg.of_grown hb8) cu8)
        have O8 := Lib.hid (OI.chg (Chg.of_grown hb8) (by omega) O7.out)
        clear cu8 hb8
        have hR := R8.out
        obtain ⟨x0, x1, x2, f0, f1, f2, y0, y1, y2, e0, e1, e2⟩ := RB.cells hR; have hgn := RB.lx hR; have hgl := (RB.rx hR).lt; have hg0l := (RB.r0 hR).lt; have hgB := RB.l0 hR; have hne := Nat.ne_of_lt hgn; have hne' := hne.symm
        clear hR
        go_wp2_with fail
        (go_light; refine bodyPost_ret (by simp (maxDischargeDepth := 3) [results, Try.results107, go_sem, *]; try rfl) rfl ?_; refine ⟨⟨_, _, xs⟩, _, rfl, ?_, (show xs.length ≤ 7 by omega), ?_, ?_⟩; (next => (refine OI.mono (base := gx + 1) (by omega) ?_; (repeat (with_reducible refine OI.setFar ?_ (by first | omega | (simp; done) | (simp; omega)) _)); exact O8.out)); (next => ((repeat (first | with_reducible refine Cu.alloc ?_ _ | with_reducible refine Cu.setFar ?_ (by first | omega | (simp; done) | (simp; omega)) _)); exact Cu.mono (RB.cu R8.out) (by omega))); (next => (refine Chg.grown ?_; (repeat (first | with_reducible refine Chg.alloc ?_ _ | with_reducible refine Chg.setNew ?_ (by first | omega | (simp; done) | (simp; omega)) _)); exact RB.ch R8.out)))
      · have hBx : B + 1 ≤ gx + 1 := by omega
        go_region_law (first | (go_simp; go_at_call 97; refine (C_amongD B _ _ 2 2 _ _ _ (by rfl) R7.out.cu (by omega) (by omega) (by decide) (by omega) anyI (by rfl)).mono ?_; rintro e w1 ⟨y, rfl, _, cu1, hb1⟩; have R1 := Lib.hid (show RB B _ g0 gx w w1 r d _ from R7.out.step (Chg.of_grown hb1) cu1); have O1 := Lib.hid (OI.chg (Chg.of_grown hb1) hBx O7.out); clear hb1 cu1; clear x0 x1 x2 f0 f1 f2 y0 y1 y2 e0 e1 e2 hgn hgl hg0l hgB hne hne'; have hR1 := R1.out; obtain ⟨x0, x1, x2, f0, f1, f2, y0, y1, y2, e0, e1, e2⟩ := RB.cells hR1; have hgn := RB.lx hR1; have hgl := (RB.rx hR1).lt; have hg0l := (RB.r0 hR1).lt; have hgB := RB.l0 hR1; have hne := Nat.ne_of_lt hgn; have hne' := hne.symm; clear hR1) | (refine step_app1 _ (by rfl) (.tmp 43) (.tmp 47) (by rfl) (gx + 1) _ xs (by rfl) (O1.out.alloc _) _ _ y (by rfl) (si_one _ _ _) (by omega) (by simp; omega) ?_; intro v1 w3 ho1 hg1; have R2 := Lib.hid (RB.grow (R1.out.alloc _) hg1 (fun q hq => (World.ownsRow.lt O1.out q hq).1)); have O2 := Lib.hid ho1; obtain ⟨VB, vb, rfl⟩ := form1 ho1; clear ho1 hg1; clear x0 x1 x2 f0 f1 f2 y0 y1 y2 e0 e1 e2 hgn hgl hg0l hgB hne hne'; have hR2 := R2.out; obtain ⟨x0, x1, x2, f0, f1, f2, y0, y1, y2, e0, e1, e2⟩ := RB.cells hR2; have hgn := RB.lx hR2; have hgl := (RB.rx hR2).lt; have hg0l := (RB.r0 hR2).lt; have hgB := RB.l0 hR2; have hne := Nat.ne_of_lt hgn; have hne' := hne.symm; clear hR2))
        all_goals
          go_wp2_with fail
          (go_light; refine bodyPost_ret (by simp (maxDischargeDepth := 3) [results, Try.results107, go_sem, *]; try rfl) rfl ?_; refine ⟨⟨_, _, xs ++ [y]⟩, _, rfl, ?_, (by simp; omega), ?_, ?_⟩; (next => (refine OI.mono (base := gx + 1) (by omega) ?_; (repeat (with_reducible refine OI.setFar ?_ (by first | omega | (simp; done) | (simp; omega)) _)); exact O2.out)); (next => ((repeat (first | with_reducible refine Cu.alloc ?_ _ | with_reducible refine Cu.setFar ?_ (by first | omega | (simp; done) | (simp; omega)) _)); exact Cu.mono (RB.cu R2.out) (by omega))); (next => (refine Chg.grown ?_; (repeat (first | with_reducible refine Chg.alloc ?_ _ | with_reducible refine Chg.setNew ?_ (by first | omega | (simp; done) | (simp; omega)) _)); exact RB.ch R2.out)))
      · (go_light; refine bodyPost_ret (by simp (maxDischargeDepth := 3) [results, Try.results107, go_sem, *]; try rfl) rfl ?_; refine ⟨⟨_, _, [2, 2, 2, 2, 2, 2]⟩, _, rfl, ?_, (by simp), ?_, ?_⟩; (next => (refine OI.mono (base := gx + 1) (by omega) ?_; (repeat (with_reducible refine OI.setFar ?_ (by first | omega | (simp; done) | (simp; omega)) _)); exact OI.rowAt (by simp [World.setCell]) _ [2, 2, 2, 2, 2, 2] _ (by simp [World.setCell]; omega) (by rfl) (by simp))); (next => ((repeat (first | with_reducible refine Cu.alloc ?_ _ | with_reducible refine Cu.setFar ?_ (by first | omega | (simp; done) | (simp; omega)) _)); exact Cu.mono (RB.cu R7.out) (by omega))); (next => (refine Chg.grown ?_; (repeat (first | with_reducible refine Chg.alloc ?_ _ | with_reducible refine Chg.setNew ?_ (by first | omega | (simp; done) | (simp; omega)) _)); exact RB.ch R7.out)))
      · (go_light; refine bodyPost_ret (by simp (maxDischargeDepth := 3) [results, Try.results107, go_sem, *]; try rfl) rfl ?_; refine ⟨⟨_, _, xs⟩, _, rfl, ?_, (show xs.length ≤ 7 by omega), ?_, ?_⟩; (next => (refine OI.mono (base := gx + 1) (by omega) ?_; (repeat (with_reducible refine OI.setFar ?_ (by first | omega | (simp; done) | (simp; omega)) _)); exact O7.out)); (next => ((repeat (first | with_reducible refine Cu.alloc ?_ _ | with_reducible refine Cu.setFar ?_ (by first | omega | (simp; done) | (simp; omega)) _)); exact Cu.mono (RB.cu R7.out) (by omega))); (next => (refine Chg.grown ?_; (repeat (first | with_reducible refine Chg.alloc ?_ _ | with_reducible refine Chg.setNew ?_ (by first | omega | (simp; done) | (simp; omega)) _)); exact RB.ch R7.out)))
end Go.Proofs.Ytcdffikambbleaa

/- Lists of reviews that are drawn. No condition but those stated. -/
namespace Go.Proofs.Ytcdffikambbleaa
set_option linter.unusedVariables false
set_option linter.unusedSimpArgs false
open Go.RowKit Go.Sort
/-- The value v is a slice of the reviews R, in rows from base on. -/
def LR (base : Nat) (w : World) (v : Value) (n : Nat) (R : Nat → Rl) : Prop :=
  ∃ S : Nat → Value, own3 base w v n (fun i => c3 (R (i / 3)).rv (S (i / 3)) (i % 3)) ∧ ∀ j, j < n → OI base w (S j) (R j).vs
theorem LR.below {base : Nat} {w w' : World} {v : Value} {n : Nat} {R : Nat → Rl} (hb : Below w.heap.size w w') (h : LR base w v n R) : LR base w' v n R := by
  obtain ⟨S, h1, h2⟩ := h
  exact ⟨S, h1.below hb, fun j hj => (h2 j hj).below hb⟩
theorem LR.chg {base lo hi : Nat} {w w' : World} {v : Value} {n : Nat} {R : Nat → Rl} (hc : Chg lo hi w w') (hl : hi ≤ base) (h : LR base w v n R) : LR base w' v n R := by
  obtain ⟨S, h1, h2⟩ := h
  exact ⟨S, h1.of_block fun g hg => hc.block g (h1.lt g hg).2 (.inr (by have := (h1.lt g hg).1; omega)), fun j hj => (h2 j hj).chg hc hl⟩
theorem LR.rrs {base : Nat} {w : World} {v : Value} {n : Nat} {R : Nat → Rl} (h : LR base w v n R) : RRs w v n (fun j => (R j).rv) := by
  obtain ⟨S, h1, h2⟩ := h
  exact own3.rrs (R := fun j => (R j).rv) h1 fun j hj => (h2 j hj).wi.si
theorem LR.empty {base g : Nat} {w : World} (hg : w.heap.size = g) (hb : base ≤ g) (R : Nat → Rl) : LR base (w.alloc (.cells #[] 27)) (.slice (some ⟨g, 0, none⟩) 0 0) 0 R := by
  subst hg
  exact ⟨fun _ => .slice none 0 0, own3.empty hb _, fun j hj => absurd hj (by omega)⟩
theorem LR.app {base : Nat} {w w' : World} {v v' sv : Value} {n : Nat} {R : Nat → Rl} {S : Nat → Value} {x : Rl} (h1 : own3 base w v n (fun i => c3 (R (i / 3)).rv (S (i / 3)) (i % 3))) (h2 : ∀ j, j < n → OI base w (S j) (R j).vs) (hx : OI base w sv x.vs)
    (ho : own3 base w' v' (n + 1) (fun i => if i < n * 3 then c3 (R (i / 3)).rv (S (i / 3)) (i % 3) else c3 x.rv sv (i - n * 3))) (hg : w.grownBy w' v.ownBlock) : LR base w' v' (n + 1) (fun j => if j = n then x else R j) := by
  have key : ∀ s xs, OI base w s xs → OI base w' s xs := fun s xs h => h.of_block fun q hq => hg.block q (World.ownsRow.lt h q hq).2 (fun e => own_ne h1 h e.symm hq)
  refine ⟨fun j => if j = n then sv else S j, ho.congr fun i hi => ?_, fun j hj => ?_⟩
  · show _ = c3 (if i / 3 = n then x else R (i / 3)).rv (if i / 3 = n then sv else S (i / 3)) (i % 3)
    by_cases e : i < n * 3
    · rw [if_pos e, if_neg (by omega), if_neg (by omega)]
    · rw [if_neg e, show i / 3 = n by omega, if_pos rfl, if_pos rfl, show i - n * 3 = i % 3 by omega]
  · by_cases e : j = n
    · simp only [if_pos e]; exact key _ _ hx
    · simp only [if_neg e]; exact key _ _ (h2 j (by omega))
def lenV : Value → Nat
  | .slice _ n _ => n
  | _ => 0
/-- What the drawing of a list of reviews keeps. -/
structure LS (B m : Nat) (w W : World) (v : Value) (n : Nat) (R : Nat → Rl) : Prop where
  cu : Cu W B m
  ch : Chg B (B + 1) w W
  lr : LR w.heap.size W v n R
  lt : B < w.heap.size
theorem LS.step {B m m' : Nat} {w W W' : World} {v : Value} {n : Nat} {R : Nat → Rl} (h : LS B m w W v n R) (hc : Chg B (B + 1) W W') (hcu : Cu W' B m') : LS B m' w W' v n R := ⟨hcu, h.ch.trans hc, h.lr.chg hc h.lt, h.lt⟩
theorem LS.mono {B m m' : Nat} {w W : World} {v : Value} {n : Nat} {R : Nat → Rl} (h : LS B m w W v n R) (hm : m ≤ m') : LS B m' w W v n R := ⟨h.cu.mono hm, h.ch, h.lr, h.lt⟩
theorem LS.alloc {B m : Nat} {w W : World} {v : Value} {n : Nat} {R : Nat → Rl} (h : LS B m w W v n R) (o : Obj) : LS B m w (W.alloc o) v n R := h.step ((Chg.refl _ _ _).alloc o) (h.cu.alloc o)
theorem LS.grow {B m : Nat} {w W W' : World} {v v' : Value} {n n' : Nat} {R R' : Nat → Rl} (h : LS B m w W v n R) (hg : W.grownBy W' v.ownBlock) (hl : LR w.heap.size W' v' n' R') : LS B m w W' v' n' R' := by
  obtain ⟨S, h1, h2⟩ := h.lr
  have hlt := h1.lt
  have h3 := h.lt
  have hc : Chg w.heap.size (max w.heap.size W.heap.size) W W' := ⟨hg.os, hg.tape, hg.output, hg.size, fun k hk hr => hg.block k hk (fun e => by have := (hlt k e.symm).1; omega)⟩
  refine ⟨h.cu.chg hc h3, ⟨hc.os.trans h.ch.os, hc.tape.trans h.ch.tape, hc.output.trans h.ch.output, Nat.le_trans h.ch.size hc.size, fun k hk hr => ?_⟩, hl, h3⟩
  exact (hc.block k (Nat.lt_of_lt_of_le hk h.ch.size) (.inl hk)).trans (h.ch.block k hk hr)
theorem LS.form {B m : Nat} {w W : World} {v : Value} {n : Nat} {R : Nat → Rl} (h : LS B m w W v n R) : ∃ A cap, v = .slice A n cap := by
  obtain ⟨S, h1, _⟩ := h.lr
  obtain ⟨A, cap, e, _⟩ := h1.form
  exact ⟨A, cap, e⟩
set_option maxRecDepth 100000 in
set_option maxHeartbeats 4000000 in
theorem C_reviews (B m : Nat) (w : World) (hcu : Cu w B m) (hm : m ≤ 800000) :
    Calls Try.prog 96 #[.pointer (some ⟨B, 0, none⟩)] w fun e w' => ∃ (v : Value) (n : Nat) (R : Nat → Rl), e = .returned v ∧ n ≤ 11 ∧ LS B (m + 300) w w' v n R := by
  have hlt := hcu.lt
  obtain ⟨g, hg⟩ : ∃ g, g = w.heap.size := ⟨_, rfl⟩
  obtain ⟨w0, hw0⟩ : ∃ w0, w0 = w.alloc (.cells #[] 27) := ⟨_, rfl⟩
  have S0 : LS B m w w0 (.slice (some ⟨g, 0, none⟩) 0 0) 0 (fun _ => ⟨0, 0, []⟩) := by
    rw [hw0]
    exact ⟨hcu.alloc _, (Chg.refl _ _ _).alloc _, LR.empty hg.symm (by omega) _, hlt⟩
  have S0 := Lib.hid S0
  have HW0 := Lib.hid hw0.symm
  have HG := Lib.hid hg.symm
  clear hw0 hg hcu
  go_enter Try.func96, Try.ntmps96
  go_wp2_with fail
  rw [HW0.out, HG.out]
  clear HW0 HG
  refine (C_pick B m 7 w0 S0.out.cu (by omega) (by omega) (by omega)).mono ?_; rintro e w1 ⟨n0, rfl, ⟨hn0, hn1⟩, cu1, hb1⟩
  have S1 := Lib.hid (S0.out.step (Chg.of_grown hb1) cu1)
  clear cu1 hb1 S0
  go_wp2
  go_loopw [3, 4, 5] (fun o rec i wr => ∃ (k n : Nat) (R : Nat → Rl) (rc : Int), k ≤ 6 ∧ n + k ≤ 6 ∧ i = .int .i64 k ∧ rec = .int .i64 rc ∧ 0 ≤ rc ∧ rc + 3 * k ≤ 18 ∧ LS B (m + 1 + 22 * (6 - k)) w wr o n R) (fun _ _ i _ => (intOf i).toNat)
  case atStart => exact ⟨n0.toNat, 0, _, 0, by omega, by omega, by rw [Int.toNat_of_nonneg hn0], rfl, by omega, by omega, S1.out.mono (by omega)⟩
  case round =>
    clear S1 hn0 hn1
    obtain ⟨k, n, R, rc, hk, hnk, rfl, rfl, hr0, hr1, hS⟩ := hrel
    obtain ⟨A, cap, rfl⟩ := hS.form
    have HS := Lib.hid hS
    clear hS
    by_cases hlt : 0 < k
    · have hlt2 : (0 : Int) < (k : Int) := by omega
      have hk1 : Value.int .i64 ((k : Int) - 1) = .int .i64 ((k - 1 : Nat) : Int) := by rw [show ((k - 1 : Nat) : Int) = (k : Int) - 1 by omega]
      have HK1 := Lib.hid hk1
      have hM : m + 1 + 22 * (6 - k) + 1 + 1 + 20 ≤ m + 1 + 22 * (6 - (k - 1)) := by omega
      have hk5 : k - 1 ≤ 6 := by omega
      clear hk1
      go_wp2_with fail
      refine (C_pick B _ 3 _ HS.out.cu (by omega) (by omega) (by omega)).mono ?_; rintro e w2 ⟨a, rfl, ⟨ha0, ha1⟩, cu2, hb2⟩
      have S2 := Lib.hid (HS.out.step (Chg.of_grown hb2) cu2)
      clear cu2 hb2
      go_wp2_with fail
      refine (C_pick B _ 80 _ S2.out.cu (by omega) (by omega) (by omega)).mono ?_; rintro e w3 ⟨b, rfl, ⟨hb0, hb1⟩, cu3, hb3⟩
      have S3 := Lib.hid (S2.out.step (Chg.of_grown hb3) cu3)
      clear cu3 hb3 S2
      have hq0 : 0 ≤ b / 79 := by omega
      have hq1 : b / 79 ≤ 1 := by omega
      go_wp2_with fail
      refine (C_review B _ _ _ S3.out.cu (by omega)).mono ?_; rintro e w4 ⟨x, u, rfl, hou, hxl, cu4, hb4⟩
      have S4 := Lib.hid (S3.out.step (Chg.of_grown hb4) cu4)
      have HU := Lib.hid (OI.mono S3.out.ch.size hou)
      obtain ⟨UA, uc, rfl⟩ := hou.form
      clear cu4 hb4 S3 hou
      have hz4 := S4.out.ch.size
      obtain ⟨S, h1, h2⟩ := (S4.out.alloc (.cells #[.int .i64 x.rid, .int .i64 x.due, .slice UA x.vs.length uc] 27)).lr
      have HO := Lib.hid h1
      have HI := Lib.hid h2
      have HUA := Lib.hid (HU.out.alloc (.cells #[.int .i64 x.rid, .int .i64 x.due, .slice UA x.vs.length uc] 27))
      have hRD : Reads (w4.alloc (.cells #[.int .i64 x.rid, .int .i64 x.due, .slice UA x.vs.length uc] 27)) _ 3 (some ⟨w4.heap.size, 0, none⟩) 1 _ := reads3 (x := x.rv) (sv := .slice UA x.vs.length uc) (cell_new' (by simp) rfl) (cell_new' (by simp) rfl) (cell_new' (by simp) rfl) (by simp)
      have HRD := Lib.hid hRD
      have hrn : rc + 1 + a - b / 79 + 3 * ((k - 1 : Nat) : Int) ≤ 18 := by omega
      have hr00 : 0 ≤ rc + 1 + a - b / 79 := by omega
      have hnk1 : n + 1 + (k - 1) ≤ 6 := by omega
      clear h1 h2 hRD
      go_wp2_with (at_builtin; refine wp_app3 _ rfl (.tmp 22) (.tmp 26) rfl w.heap.size _ n _ rfl HO.out (some ⟨w4.heap.size, 0, none⟩) 1 1 (fun i => c3 x.rv (.slice UA x.vs.length uc) i) rfl HRD.out (fun i hi => c3_one rfl _) (by omega) (by simp; omega) ?_; intro v5 w5 ho5 hb5 hg5; have S5 := Lib.hid (LS.grow (S4.out.alloc _) hg5 (LR.app HO.out HI.out HUA.out ho5 hg5)); clear ho5 hb5 hg5)
      go_roundw
      case rel => exact ⟨k - 1, n + 1, _, _, hk5, hnk1, HK1.out, rfl, hr00, hrn, S5.out.mono hM⟩
      case measure => simp [intOf]; omega
    · obtain rfl : k = 0 := by omega
      have hz : ¬ (0 : Int) < ((0 : Nat) : Int) := by omega
      have hn6 : n ≤ 6 := by omega
      have hr18 : rc ≤ 18 := by omega
      clear hr1 hnk
      go_wp2_with fail
      refine (C_one B _ 24 _ HS.out.cu (by omega) (by omega) (by omega)).mono ?_; rintro e w7 ⟨bb, rfl, cu7, hb7⟩
      have S7 := Lib.hid (HS.out.step (Chg.of_grown hb7) cu7)
      clear cu7 hb7 HS
      cases bb
      · go_wp2_with fail
        go_ret
        exact ⟨_, n, R, rfl, by omega, S7.out.mono (by omega)⟩
      · go_wp2
        go_loopw [3, 4] (fun o rec wr => ∃ (n : Nat) (R : Nat → Rl) (rc : Int), n ≤ 11 ∧ rec = .int .i64 rc ∧ 0 ≤ rc ∧ rc ≤ 18 + n ∧ LS B (m + 200 + n) w wr o n R) (fun o _ _ => 12 - lenV o)
        case atStart => exact ⟨n, R, rc, by omega, rfl, hr0, by omega, S7.out.mono (by omega)⟩
        case round =>
          clear S7 hr0 hr18 hn6
          obtain ⟨n, R, rc, hn, rfl, hr0, hr1, hS⟩ := hrel
          obtain ⟨A, cap, rfl⟩ := hS.form
          have HS := Lib.hid hS
          clear hS
          go_wp2_with fail
          refine (C_pick B _ 2 _ HS.out.cu (by omega) (by omega) (by omega)).mono ?_; rintro e w8 ⟨a, rfl, ⟨ha0, ha1⟩, cu8, hb8⟩
          have S8 := Lib.hid (HS.out.step (Chg.of_grown hb8) cu8)
          clear cu8 hb8 HS
          by_cases hlt : (n : Int) < 10 + a
          · have hz8 := S8.out.ch.size
            have hn10 : n + 1 ≤ 11 := by omega
            have hr2 : rc + 1 ≤ 18 + ((n + 1 : Nat) : Int) := by omega
            have hr3 : 0 ≤ rc + 1 := by omega
            have hM : m + 200 + n + 1 ≤ m + 200 + (n + 1) := by omega
            obtain ⟨S, h1, h2⟩ := ((S8.out.alloc (.cells #[.int .i64 3, .int .i64 3, .int .i64 2] 3)).alloc (.cells #[.int .i64 (rc + 1), .int .i64 0, .slice (some ⟨w8.heap.size, 0, none⟩) 3 3] 27)).lr
            have HO := Lib.hid h1
            have HI := Lib.hid h2
            have HUA := Lib.hid (OI.alloc (.cells #[.int .i64 (rc + 1), .int .i64 0, .slice (some ⟨w8.heap.size, 0, none⟩) 3 3] 27) (OI.rowAt (w := w8) (g := w8.heap.size) rfl #[.int .i64 3, .int .i64 3, .int .i64 2] [3, 3, 2] w.heap.size hz8 (by rfl) (by simp)))
            have hRD : Reads ((w8.alloc (.cells #[.int .i64 3, .int .i64 3, .int .i64 2] 3)).alloc (.cells #[.int .i64 (rc + 1), .int .i64 0, .slice (some ⟨w8.heap.size, 0, none⟩) 3 3] 27)) _ 3 (some ⟨w8.heap.size + 1, 0, none⟩) 1 _ := reads3 (x := (⟨rc + 1, 0, [3, 3, 2]⟩ : Rl).rv) (sv := .slice (some ⟨w8.heap.size, 0, none⟩) 3 3) (cell_new' (by simp) rfl) (cell_new' (by simp) rfl) (cell_new' (by simp) rfl) (by simp)
            have HRD := Lib.hid hRD
            clear h1 h2 hRD
            go_wp2_with (at_builtin; refine wp_app3 _ rfl (.tmp 38) (.tmp 42) rfl w.heap.size _ n _ rfl HO.out (some ⟨w8.heap.size + 1, 0, none⟩) 1 1 (fun i => c3 (⟨rc + 1, 0, [3, 3, 2]⟩ : Rl).rv (.slice (some ⟨w8.heap.size, 0, none⟩) 3 3) i) rfl HRD.out (fun i hi => c3_one rfl _) (by omega) (by simp; omega) ?_; intro v5 w5 ho5 hb5 hg5; have S5 := Lib.hid (LS.grow ((S8.out.alloc _).alloc _) hg5 (LR.app (x := ⟨rc + 1, 0, [3, 3, 2]⟩) HO.out HI.out HUA.out ho5 hg5)); have hv5 := S5.out.form; obtain ⟨A5, c5, rfl⟩ := hv5; clear ho5 hb5 hg5)
            go_roundw
            case rel => exact ⟨n + 1, _, _, hn10, rfl, hr3, hr2, S5.out.mono hM⟩
            case measure => simp [lenV]; omega
          · go_wp2_with fail
            go_ret
            exact ⟨_, n, R, rfl, hn, S8.out.mono (by omega)⟩
end Go.Proofs.Ytcdffikambbleaa

/- What the laws on reviews draw. No condition but those stated. -/
namespace Go.Proofs.Ytcdffikambbleaa
set_option linter.unusedVariables false
set_option linter.unusedSimpArgs false
open Go.RowKit Go.Sort
attribute [local go_sem ↓] Go.wp_at_zero Go.wp_at_succ
theorem C_DrawAreReviews (v : Value) (n : Nat) (w : World) (h : SU w v n) :
    Calls Try.prog 95 #[v] w fun e w' => ∃ (u : Value) (m : Nat) (R : Nat → Rl), e = .returned u ∧ m ≤ 11 ∧ RRs w' u m (fun j => (R j).rv) ∧ Below w.heap.size w w' := by
  obtain ⟨A, cap, rfl⟩ := h.form
  obtain ⟨B, hB⟩ : ∃ B, B = w.heap.size := ⟨_, rfl⟩
  obtain ⟨w1, hw1⟩ : ∃ w1, w1 = w.alloc (.cells #[.slice A n cap, .int .i64 0, .int .u64 0] 91) := ⟨_, rfl⟩
  have b1 : Below w.heap.size w w1 := by rw [hw1]; (repeat (first | with_reducible exact Below.refl _ _ | with_reducible exact below_regrown _ _ _ | with_reducible refine bel_step0 (by assumption) ?_ | with_reducible refine bel_alloc0 ?_ _ | with_reducible refine bel_regrown0 ?_ _ _ | with_reducible refine bel_regrown ?_ (by first | omega | (simp; done) | (simp; omega)) _ _ | with_reducible refine below_drewN ?_ _ | with_reducible refine Below.drew ?_ | with_reducible refine Below.alloc ?_ (by first | omega | (simp; done) | (simp; omega)) _ | with_reducible refine Below.setCell ?_ (by first | omega | (simp; done) | (simp; omega)) _ | with_reducible refine bel_step (by assumption) (by first | omega | (simp; done) | (simp; omega)) ?_ | with_reducible refine bel_grown (by assumption) (by first | omega | (simp; done) | (simp; omega)) (by first | omega | (simp; done) | (simp; omega)) ?_))
  have cu1 : Cu w1 B 0 := by rw [hw1, hB]; exact Cu.start h _
  have HW := Lib.hid hw1.symm
  have HB := Lib.hid hB.symm
  have hBw : w.heap.size ≤ B := by omega
  clear hw1 hB h
  go_enter Try.func95, Try.ntmps95
  go_wp2_with fail
  rw [HW.out, HB.out]
  refine (C_reviews B 0 w1 cu1 (by omega)).mono ?_; rintro e w2 ⟨u, m, R, rfl, hm, hS⟩
  go_wp2_with fail
  go_ret
  exact ⟨_, m, R, rfl, hm, hS.lr.rrs, bel_chg hS.ch hBw b1⟩
theorem C_DrawVotesMissing (v : Value) (n : Nat) (w : World) (h : SU w v n) :
    Calls Try.prog 52 #[v] w fun e w' => ∃ (u : Value) (m : Nat) (R : Nat → Rl), e = .returned u ∧ m ≤ 11 ∧ RRs w' u m (fun j => (R j).rv) ∧ Below w.heap.size w w' := by
  go_enter Try.func52, Try.ntmps52
  go_wp2_with fail
  refine (C_DrawAreReviews v n w h).mono ?_; rintro e w2 ⟨u, m, R, rfl, hm, hS, hb⟩
  go_wp2_with fail
  go_ret
  exact ⟨_, m, R, rfl, hm, hS, hb⟩
theorem C_DrawDeciders (v : Value) (n : Nat) (w : World) (h : SU w v n) :
    Calls Try.prog 67 #[v] w fun e w' => ∃ (u : Value) (m : Nat) (R : Nat → Rl), e = .returned u ∧ m ≤ 11 ∧ RRs w' u m (fun j => (R j).rv) ∧ Below w.heap.size w w' := by
  go_enter Try.func67, Try.ntmps67
  go_wp2_with fail
  refine (C_DrawAreReviews v n w h).mono ?_; rintro e w2 ⟨u, m, R, rfl, hm, hS, hb⟩
  go_wp2_with fail
  go_ret
  exact ⟨_, m, R, rfl, hm, hS, hb⟩
set_option maxHeartbeats 1000000 in
theorem C_DrawPutOff (v : Value) (n : Nat) (w : World) (h : SU w v n) :
    Calls Try.prog 53 #[v] w fun e w' => ∃ (u : Value) (m : Nat) (R : Nat → Rl) (d : Int), e = .returned (.tuple #[u, .int .i64 d]) ∧ m ≤ 11 ∧ I64 d ∧ RRs w' u m (fun j => (R j).rv) ∧ Below w.heap.size w w' := by
  obtain ⟨A, cap, rfl⟩ := h.form
  obtain ⟨B, hB⟩ : ∃ B, B = w.heap.size := ⟨_, rfl⟩
  obtain ⟨w1, hw1⟩ : ∃ w1, w1 = w.alloc (.cells #[.slice A n cap, .int .i64 0, .int .u64 0] 91) := ⟨_, rfl⟩
  have b1 : Below w.heap.size w w1 := by rw [hw1]; (repeat (first | with_reducible exact Below.refl _ _ | with_reducible exact below_regrown _ _ _ | with_reducible refine bel_step0 (by assumption) ?_ | with_reducible refine bel_alloc0 ?_ _ | with_reducible refine bel_regrown0 ?_ _ _ | with_reducible refine bel_regrown ?_ (by first | omega | (simp; done) | (simp; omega)) _ _ | with_reducible refine below_drewN ?_ _ | with_reducible refine Below.drew ?_ | with_reducible refine Below.alloc ?_ (by first | omega | (simp; done) | (simp; omega)) _ | with_reducible refine Below.setCell ?_ (by first | omega | (simp; done) | (simp; omega)) _ | with_reducible refine bel_step (by assumption) (by first | omega | (simp; done) | (simp; omega)) ?_ | with_reducible refine bel_grown (by assumption) (by first | omega | (simp; done) | (simp; omega)) (by first | omega | (simp; done) | (simp; omega)) ?_))
  have cu1 : Cu w1 B 0 := by rw [hw1, hB]; exact Cu.start h _
  have HW := Lib.hid hw1.symm
  have HB := Lib.hid hB.symm
  have hBw : w.heap.size ≤ B := by omega
  clear hw1 hB h
  go_enter Try.func53, Try.ntmps53
  go_wp2_with fail
  rw [HW.out, HB.out]
  refine (C_reviews B 0 w1 cu1 (by omega)).mono ?_; rintro e w2 ⟨u, m, R, rfl, hm, hS⟩
  have HS := Lib.hid hS
  have hl2 := hS.cu.lt
  clear hS HW HB cu1
  go_wp2_with fail
  obtain ⟨g, hg⟩ : ∃ g, g = w2.heap.size := ⟨_, rfl⟩
  obtain ⟨w3, hw3⟩ : ∃ w3, w3 = w2.alloc (.cells #[.int .i64 1, .int .i64 30, .int .i64 500, .int .i64 1000, .int .i64 0, .int .i64 1001] 3) := ⟨_, rfl⟩
  have rg : w3.rowIs g 3 6 (fun j => (#[.int .i64 1, .int .i64 30, .int .i64 500, .int .i64 1000, .int .i64 0, .int .i64 1001]).getD j undef) := by rw [hw3, hg]; exact row_lit w2 _ _
  have S3 := Lib.hid (show LS B 300 w1 w3 u m R by rw [hw3]; exact HS.out.alloc _)
  have RG := Lib.hid rg
  have HG := Lib.hid hg.symm
  have HW3 := Lib.hid hw3.symm
  have hgB : g ≠ B := by omega
  clear rg hg hw3 HS hl2
  rw [HG.out, HW3.out]
  clear HG HW3
  refine (C_pick B _ 24 w3 S3.out.cu (by omega) (by omega) (by omega)).mono ?_; rintro e w4 ⟨a, rfl, ⟨ha0, ha1⟩, cu4, hb4⟩
  have S4 := Lib.hid (S3.out.step (Chg.of_grown hb4) cu4)
  have R4 := Lib.hid (RG.out.of_block (hb4.block g RG.out.lt (by intro e; injection e with e; exact hgB e)))
  clear cu4 hb4 RG S3
  obtain ⟨q, hq⟩ : ∃ q : Nat, (q : Int) = a / 11 := ⟨(a / 11).toNat, by omega⟩
  have hq2 : q ≤ 2 := by omega
  have hd1 : (0 : Int) ≤ 4 + a / 11 := by omega
  have hd2 : 4 + a / 11 ≤ 6 := by omega
  have hd3 : (4 + a / 11).toNat = 4 + q := by omega
  go_wp2_with fail
  refine (C_amongR B _ #[.int .i64 1, .int .i64 30, .int .i64 500, .int .i64 1000, .int .i64 0, .int .i64 1001] (4 + q) _ g w4 3 R4.out hgB S4.out.cu (by omega) (by omega) (by simp; omega) (by omega) i64B (by rfl)).mono ?_; rintro e w5 ⟨d, rfl, hd, cu5, hb5⟩
  have S5 := Lib.hid (S4.out.step (Chg.of_grown hb5) cu5)
  clear cu5 hb5 S4 R4 hd1 hd2 hd3 hq
  go_wp2_with fail
  go_ret2
  exact ⟨_, m, R, d, rfl, hm, i64_of hd, S5.out.lr.rrs, bel_chg S5.out.ch hBw b1⟩
set_option maxHeartbeats 1000000 in
theorem C_DrawDecided (v : Value) (n : Nat) (w : World) (h : SU w v n) :
    Calls Try.prog 55 #[v] w fun e w' => ∃ (u : Value) (m : Nat) (R : Nat → Rl) (d : Int), e = .returned (.tuple #[u, .int .i64 d]) ∧ m ≤ 11 ∧ I64 d ∧ RRs w' u m (fun j => (R j).rv) ∧ Below w.heap.size w w' := by
  obtain ⟨A, cap, rfl⟩ := h.form
  obtain ⟨B, hB⟩ : ∃ B, B = w.heap.size := ⟨_, rfl⟩
  obtain ⟨w1, hw1⟩ : ∃ w1, w1 = w.alloc (.cells #[.slice A n cap, .int .i64 0, .int .u64 0] 91) := ⟨_, rfl⟩
  have b1 : Below w.heap.size w w1 := by rw [hw1]; (repeat (first | with_reducible exact Below.refl _ _ | with_reducible exact below_regrown _ _ _ | with_reducible refine bel_step0 (by assumption) ?_ | with_reducible refine bel_alloc0 ?_ _ | with_reducible refine bel_regrown0 ?_ _ _ | with_reducible refine bel_regrown ?_ (by first | omega | (simp; done) | (simp; omega)) _ _ | with_reducible refine below_drewN ?_ _ | with_reducible refine Below.drew ?_ | with_reducible refine Below.alloc ?_ (by first | omega | (simp; done) | (simp; omega)) _ | with_reducible refine Below.setCell ?_ (by first | omega | (simp; done) | (simp; omega)) _ | with_reducible refine bel_step (by assumption) (by first | omega | (simp; done) | (simp; omega)) ?_ | with_reducible refine bel_grown (by assumption) (by first | omega | (simp; done) | (simp; omega)) (by first | omega | (simp; done) | (simp; omega)) ?_))
  have cu1 : Cu w1 B 0 := by rw [hw1, hB]; exact Cu.start h _
  have HW := Lib.hid hw1.symm
  have HB := Lib.hid hB.symm
  have hBw : w.heap.size ≤ B := by omega
  clear hw1 hB h
  go_enter Try.func55, Try.ntmps55
  go_wp2_with fail
  rw [HW.out, HB.out]
  refine (C_reviews B 0 w1 cu1 (by omega)).mono ?_; rintro e w2 ⟨u, m, R, rfl, hm, hS⟩
  have HS := Lib.hid hS
  have hl2 := hS.cu.lt
  clear hS HW HB cu1
  go_wp2_with fail
  obtain ⟨g, hg⟩ : ∃ g, g = w2.heap.size := ⟨_, rfl⟩
  obtain ⟨w3, hw3⟩ : ∃ w3, w3 = w2.alloc (.cells #[.int .i64 0, .int .i64 1, .int .i64 2, .int .i64 3, .int .i64 (-1), .int .i64 4] 3) := ⟨_, rfl⟩
  have rg : w3.rowIs g 3 6 (fun j => (#[.int .i64 0, .int .i64 1, .int .i64 2, .int .i64 3, .int .i64 (-1), .int .i64 4]).getD j undef) := by rw [hw3, hg]; exact row_lit w2 _ _
  have S3 := Lib.hid (show LS B 300 w1 w3 u m R by rw [hw3]; exact HS.out.alloc _)
  have RG := Lib.hid rg
  have HG := Lib.hid hg.symm
  have HW3 := Lib.hid hw3.symm
  have hgB : g ≠ B := by omega
  clear rg hg hw3 HS hl2
  rw [HG.out, HW3.out]
  clear HG HW3
  refine (C_pick B _ 24 w3 S3.out.cu (by omega) (by omega) (by omega)).mono ?_; rintro e w4 ⟨a, rfl, ⟨ha0, ha1⟩, cu4, hb4⟩
  have S4 := Lib.hid (S3.out.step (Chg.of_grown hb4) cu4)
  have R4 := Lib.hid (RG.out.of_block (hb4.block g RG.out.lt (by intro e; injection e with e; exact hgB e)))
  clear cu4 hb4 RG S3
  obtain ⟨q, hq⟩ : ∃ q : Nat, (q : Int) = a / 11 := ⟨(a / 11).toNat, by omega⟩
  have hq2 : q ≤ 2 := by omega
  have hd1 : (0 : Int) ≤ 4 + a / 11 := by omega
  have hd2 : 4 + a / 11 ≤ 6 := by omega
  have hd3 : (4 + a / 11).toNat = 4 + q := by omega
  go_wp2_with fail
  refine (C_amongR B _ #[.int .i64 0, .int .i64 1, .int .i64 2, .int .i64 3, .int .i64 (-1), .int .i64 4] (4 + q) _ g w4 3 R4.out hgB S4.out.cu (by omega) (by omega) (by simp; omega) (by omega) i64B (by rfl)).mono ?_; rintro e w5 ⟨d, rfl, hd, cu5, hb5⟩
  have S5 := Lib.hid (S4.out.step (Chg.of_grown hb5) cu5)
  clear cu5 hb5 S4 R4 hd1 hd2 hd3 hq
  go_wp2_with fail
  go_ret2
  exact ⟨_, m, R, d, rfl, hm, i64_of hd, S5.out.lr.rrs, bel_chg S5.out.ch hBw b1⟩
set_option maxHeartbeats 1000000 in
theorem C_DrawLateReviews (v : Value) (n : Nat) (w : World) (h : SU w v n) :
    Calls Try.prog 65 #[v] w fun e w' => ∃ (u : Value) (m : Nat) (R : Nat → Rl) (d : Int), e = .returned (.tuple #[u, .int .i64 d]) ∧ m ≤ 11 ∧ I64 d ∧ RRs w' u m (fun j => (R j).rv) ∧ Below w.heap.size w w' := by
  obtain ⟨A, cap, rfl⟩ := h.form
  obtain ⟨B, hB⟩ : ∃ B, B = w.heap.size := ⟨_, rfl⟩
  obtain ⟨w1, hw1⟩ : ∃ w1, w1 = w.alloc (.cells #[.slice A n cap, .int .i64 0, .int .u64 0] 91) := ⟨_, rfl⟩
  have b1 : Below w.heap.size w w1 := by rw [hw1]; (repeat (first | with_reducible exact Below.refl _ _ | with_reducible exact below_regrown _ _ _ | with_reducible refine bel_step0 (by assumption) ?_ | with_reducible refine bel_alloc0 ?_ _ | with_reducible refine bel_regrown0 ?_ _ _ | with_reducible refine bel_regrown ?_ (by first | omega | (simp; done) | (simp; omega)) _ _ | with_reducible refine below_drewN ?_ _ | with_reducible refine Below.drew ?_ | with_reducible refine Below.alloc ?_ (by first | omega | (simp; done) | (simp; omega)) _ | with_reducible refine Below.setCell ?_ (by first | omega | (simp; done) | (simp; omega)) _ | with_reducible refine bel_step (by assumption) (by first | omega | (simp; done) | (simp; omega)) ?_ | with_reducible refine bel_grown (by assumption) (by first | omega | (simp; done) | (simp; omega)) (by first | omega | (simp; done) | (simp; omega)) ?_))
  have cu1 : Cu w1 B 0 := by rw [hw1, hB]; exact Cu.start h _
  have HW := Lib.hid hw1.symm
  have HB := Lib.hid hB.symm
  have hBw : w.heap.size ≤ B := by omega
  clear hw1 hB h
  go_enter Try.func65, Try.ntmps65
  go_wp2_with fail
  rw [HW.out, HB.out]
  refine (C_reviews B 0 w1 cu1 (by omega)).mono ?_; rintro e w2 ⟨u, m, R, rfl, hm, hS⟩
  have HS := Lib.hid hS
  have hl2 := hS.cu.lt
  clear hS HW HB cu1
  go_wp2_with fail
  obtain ⟨g, hg⟩ : ∃ g, g = w2.heap.size := ⟨_, rfl⟩
  obtain ⟨w3, hw3⟩ : ∃ w3, w3 = w2.alloc (.cells #[.int .i64 0, .int .i64 10, .int .i64 11, .int .i64 20000, .int .i64 20000, .int .i64 (-1), .int .i64 20001] 3) := ⟨_, rfl⟩
  have rg : w3.rowIs g 3 7 (fun j => (#[.int .i64 0, .int .i64 10, .int .i64 11, .int .i64 20000, .int .i64 20000, .int .i64 (-1), .int .i64 20001]).getD j undef) := by rw [hw3, hg]; exact row_lit w2 _ _
  have S3 := Lib.hid (show LS B 300 w1 w3 u m R by rw [hw3]; exact HS.out.alloc _)
  have RG := Lib.hid rg
  have HG := Lib.hid hg.symm
  have HW3 := Lib.hid hw3.symm
  have hgB : g ≠ B := by omega
  clear rg hg hw3 HS hl2
  rw [HG.out, HW3.out]
  clear HG HW3
  refine (C_pick B _ 24 w3 S3.out.cu (by omega) (by omega) (by omega)).mono ?_; rintro e w4 ⟨a, rfl, ⟨ha0, ha1⟩, cu4, hb4⟩
  have S4 := Lib.hid (S3.out.step (Chg.of_grown hb4) cu4)
  have R4 := Lib.hid (RG.out.of_block (hb4.block g RG.out.lt (by intro e; injection e with e; exact hgB e)))
  clear cu4 hb4 RG S3
  obtain ⟨q, hq⟩ : ∃ q : Nat, (q : Int) = a / 11 := ⟨(a / 11).toNat, by omega⟩
  have hq2 : q ≤ 2 := by omega
  have hd1 : (0 : Int) ≤ 5 + a / 11 := by omega
  have hd2 : 5 + a / 11 ≤ 7 := by omega
  have hd3 : (5 + a / 11).toNat = 5 + q := by omega
  go_wp2_with fail
  refine (C_amongR B _ #[.int .i64 0, .int .i64 10, .int .i64 11, .int .i64 20000, .int .i64 20000, .int .i64 (-1), .int .i64 20001] (5 + q) _ g w4 3 R4.out hgB S4.out.cu (by omega) (by omega) (by simp; omega) (by omega) i64B (by rfl)).mono ?_; rintro e w5 ⟨d, rfl, hd, cu5, hb5⟩
  have S5 := Lib.hid (S4.out.step (Chg.of_grown hb5) cu5)
  clear cu5 hb5 S4 R4 hd1 hd2 hd3 hq
  go_wp2_with fail
  go_ret2
  exact ⟨_, m, R, d, rfl, hm, i64_of hd, S5.out.lr.rrs, bel_chg S5.out.ch hBw b1⟩
theorem oi_si {base : Nat} {w : World} {v : Value} {xs : List Int} (h : OI base w v xs) : SI w v xs.length (ai xs) := h.wi.si
set_option maxHeartbeats 1000000 in
theorem C_DrawIsReview (v : Value) (n : Nat) (w : World) (h : SU w v n) :
    Calls Try.prog 99 #[v] w fun e w' => ∃ (x : Rl) (u : Value), e = .returned (.agg #[.int .i64 x.rid, .int .i64 x.due, u]) ∧ OI w.heap.size w' u x.vs ∧ x.vs.length ≤ 7 ∧ Below w.heap.size w w' := by
  obtain ⟨A, cap, rfl⟩ := h.form
  obtain ⟨w0, hw0⟩ : ∃ w0, w0 = w.alloc (.cells #[.int .i64 0, .int .i64 0, .slice none 0 0] 27) := ⟨_, rfl⟩
  obtain ⟨B, hB⟩ : ∃ B, B = w.heap.size + 1 := ⟨_, rfl⟩
  obtain ⟨w1, hw1⟩ : ∃ w1, w1 = w0.alloc (.cells #[.slice A n cap, .int .i64 0, .int .u64 0] 91) := ⟨_, rfl⟩
  have b0 : Below w.heap.size w w0 := by rw [hw0]; (repeat (first | with_reducible exact Below.refl _ _ | with_reducible exact below_regrown _ _ _ | with_reducible refine bel_step0 (by assumption) ?_ | with_reducible refine bel_alloc0 ?_ _ | with_reducible refine bel_regrown0 ?_ _ _ | with_reducible refine bel_regrown ?_ (by first | omega | (simp; done) | (simp; omega)) _ _ | with_reducible refine below_drewN ?_ _ | with_reducible refine Below.drew ?_ | with_reducible refine Below.alloc ?_ (by first | omega | (simp; done) | (simp; omega)) _ | with_reducible refine Below.setCell ?_ (by first | omega | (simp; done) | (simp; omega)) _ | with_reducible refine bel_step (by assumption) (by first | omega | (simp; done) | (simp; omega)) ?_ | with_reducible refine bel_grown (by assumption) (by first | omega | (simp; done) | (simp; omega)) (by first | omega | (simp; done) | (simp; omega)) ?_))
  have z0 : w0.heap.size = B := by rw [hw0, hB]; simp
  have b1 : Below w.heap.size w w1 := by rw [hw1]; exact bel_alloc0 b0 _
  have cu1 : Cu w1 B 0 := by rw [hw1, ← z0]; exact Cu.start (h.below b0) _
  have r1 : w1.rowIs w.heap.size 27 3 (c3v 0 0 (.slice none 0 0)) := by rw [hw1, hw0]; exact row_alloc (row3_alloc w _ 0 0 _) _
  have HW := Lib.hid (show (w.alloc (.cells #[.int .i64 0, .int .i64 0, .slice none 0 0] 27)).alloc (.cells #[.slice A n cap, .int .i64 0, .int .u64 0] 91) = w1 by rw [hw1, hw0])
  have z1 : w1.heap.size = B + 1 := by rw [hw1, World.size_alloc, z0]
  have HZ := Lib.hid z1
  have HB := Lib.hid hB.symm
  have HR := Lib.hid r1
  have hBw : w.heap.size < B := by omega
  clear hw1 hw0 hB h z0 b0 r1 z1
  go_enter Try.func99, Try.ntmps99
  go_wp2_with fail
  rw [HW.out, HB.out]
  refine (C_amongL B 0 _ 3 3 _ w1 _ HZ.out cu1 (by omega) (by omega) (by decide) (by omega) anyI (by rfl)).mono ?_; rintro e w2 ⟨y, rfl, _, cu2, hb2⟩
  have R2 := Lib.hid (row_chg HR.out (Chg.of_grown hb2) (.inl hBw))
  have b2 := bel_chg (Chg.of_grown hb2) (Nat.le_of_lt hBw) b1
  clear hb2 cu1 HR b1 HW HZ
  go_wp2_with fail
  refine (C_review B _ _ _ cu2 (by omega)).mono ?_; rintro e w4 ⟨x, u, rfl, hou, hxl, cu4, hb4⟩
  have h0 := row_chg R2.out (Chg.of_grown hb4) (.inl hBw)
  have b4 := bel_chg (Chg.of_grown hb4) (Nat.le_of_lt hBw) b2
  have hlt2 := R2.out.lt
  have HU := Lib.hid hou
  obtain ⟨UA, uc, rfl⟩ := hou.form
  have y0 := h0.cell (i := 0) (by omega)
  have y1 := h0.cell (i := 1) (by omega)
  have y2 := h0.cell (i := 2) (by omega)
  have v0 := h0.frozen 0
  have v1 := h0.frozen 1
  have v2 := h0.frozen 2
  clear R2 cu2 cu4 hb4 h0 hou HB b2
  go_wp2_with fail
  go_light; refine bodyPost_ret (by simp (maxDischargeDepth := 3) [results, Try.results99, go_sem, *]; try rfl) rfl ?_; refine ⟨x, _, rfl, ?_, hxl, ?_⟩
  · refine OI.mono (base := w2.heap.size) (by omega) ?_
    exact ((HU.out.setFar (p := ⟨w.heap.size, 0, none⟩) hlt2 _).setFar (p := ⟨w.heap.size, 1, none⟩) hlt2 _).setFar (p := ⟨w.heap.size, 2, none⟩) hlt2 _
  · (repeat (first | with_reducible assumption | with_reducible refine Below.drew ?_ | with_reducible refine bel_alloc0 ?_ _ | with_reducible refine Below.setCell ?_ (by first | omega | (simp; done) | (simp; omega)) _))
set_option maxHeartbeats 1000000 in
theorem C_DrawVerdictOf (v : Value) (n : Nat) (w : World) (h : SU w v n) :
    Calls Try.prog 57 #[v] w fun e w' => ∃ (x : Rl) (u : Value), e = .returned (.agg #[.int .i64 x.rid, .int .i64 x.due, u]) ∧ OI w.heap.size w' u x.vs ∧ x.vs.length ≤ 7 ∧ Below w.heap.size w w' := by
  obtain ⟨w0, hw0⟩ : ∃ w0, w0 = w.alloc (.cells #[.int .i64 0, .int .i64 0, .slice none 0 0] 27) := ⟨_, rfl⟩
  have b0 : Below w.heap.size w w0 := by rw [hw0]; (repeat (first | with_reducible exact Below.refl _ _ | with_reducible exact below_regrown _ _ _ | with_reducible refine bel_step0 (by assumption) ?_ | with_reducible refine bel_alloc0 ?_ _ | with_reducible refine bel_regrown0 ?_ _ _ | with_reducible refine bel_regrown ?_ (by first | omega | (simp; done) | (simp; omega)) _ _ | with_reducible refine below_drewN ?_ _ | with_reducible refine Below.drew ?_ | with_reducible refine Below.alloc ?_ (by first | omega | (simp; done) | (simp; omega)) _ | with_reducible refine Below.setCell ?_ (by first | omega | (simp; done) | (simp; omega)) _ | with_reducible refine bel_step (by assumption) (by first | omega | (simp; done) | (simp; omega)) ?_ | with_reducible refine bel_grown (by assumption) (by first | omega | (simp; done) | (simp; omega)) (by first | omega | (simp; done) | (simp; omega)) ?_))
  have r1 : w0.rowIs w.heap.size 27 3 (c3v 0 0 (.slice none 0 0)) := by rw [hw0]; exact row3_alloc w _ 0 0 _
  have HW := Lib.hid hw0.symm
  have HR := Lib.hid r1
  have h1 := h.below b0
  clear hw0 h r1
  go_enter Try.func57, Try.ntmps57
  go_wp2_with fail
  rw [HW.out]
  refine (C_DrawIsReview _ n w0 h1).mono ?_; rintro e w4 ⟨x, u, rfl, hou, hxl, hb4⟩
  have h0 := HR.out.of_block (hb4.block _ HR.out.lt)
  have b4 := bel_step0 hb4 b0
  have hlt2 := HR.out.lt
  have HU := Lib.hid hou
  obtain ⟨UA, uc, rfl⟩ := hou.form
  have y0 := h0.cell (i := 0) (by omega)
  have y1 := h0.cell (i := 1) (by omega)
  have y2 := h0.cell (i := 2) (by omega)
  have v0 := h0.frozen 0
  have v1 := h0.frozen 1
  have v2 := h0.frozen 2
  clear hb4 h0 hou HW HR b0 h1
  go_wp2_with fail
  go_light; refine bodyPost_ret (by simp (maxDischargeDepth := 3) [results, Try.results57, go_sem, *]; try rfl) rfl ?_; refine ⟨x, _, rfl, ?_, hxl, ?_⟩
  · refine OI.mono (base := w0.heap.size) (by omega) ?_
    exact ((HU.out.setFar (p := ⟨w.heap.size, 0, none⟩) hlt2 _).setFar (p := ⟨w.heap.size, 1, none⟩) hlt2 _).setFar (p := ⟨w.heap.size, 2, none⟩) hlt2 _
  · (repeat (first | with_reducible assumption | with_reducible refine Below.drew ?_ | with_reducible refine bel_alloc0 ?_ _ | with_reducible refine Below.setCell ?_ (by first | omega | (simp; done) | (simp; omega)) _))
end Go.Proofs.Ytcdffikambbleaa
