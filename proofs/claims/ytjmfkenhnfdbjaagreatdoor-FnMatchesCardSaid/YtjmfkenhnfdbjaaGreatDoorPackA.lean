/- Texts of this claim in one: Cur, CurL, Code, CurG, QzH, QzK, QzL. No condition but those stated. -/
import Derived.Test.YtjmfkenhnfdbjaaGreatDoorMem
import Derived.Test.YtjmfkenhnfdbjaaGreatDoorIntsE
import Derived.Lib.LazyBuf
import Derived.ChangeSlices
import Derived.Test.YtjmfkenhnfdbjaaGreatDoorTxtA
import Derived.Test.YtjmfkenhnfdbjaaGreatDoorQyZ
import Derived.Test.YtjmfkenhnfdbjaaGreatDoorLkO
import Derived.Deep.RegionHeld3
import Derived.Deep.DrawnRows
/- The cursor that the draws read from. No condition but those stated. -/
namespace Go.Proofs.YtjmfkenhnfdbjaaGreatDoor
set_option linter.unusedVariables false
set_option linter.unusedSimpArgs false
open Go.RowKit Go.Sort
/-- A cursor in block B: its three cells, and the bytes that it reads, which lie below B. -/
structure Cu (w : World) (B m : Nat) : Prop where
  lt : B < w.heap.size
  fz : ∀ i, w.frozen? ⟨B, i, none⟩ = false
  body : ∃ (A : Option Addr) (n cap : Nat) (f : Nat → Int) (a : Nat) (s : Int), w.cell? ⟨B, 0, none⟩ = some (.slice A n cap) ∧ w.cell? ⟨B, 1, none⟩ = some (.int .i64 a) ∧ w.cell? ⟨B, 2, none⟩ = some (.int .u64 s) ∧ a ≤ m ∧ n ≤ 9223372036854775807 ∧
    (∀ j, 0 ≤ f j ∧ f j ≤ 255) ∧ (0 < n → ∃ b off, A = some ⟨b, off, none⟩ ∧ b < B ∧ ∀ j, j < n → w.cell? ⟨b, off + j, none⟩ = some (.int .u8 (f j)))
theorem Cu.mono {w : World} {B m m' : Nat} (h : Cu w B m) (hm : m ≤ m') : Cu w B m' := by
  obtain ⟨h1, h2, A, n, cap, f, a, s, c0, c1, c2, ha, r⟩ := h
  exact ⟨h1, h2, A, n, cap, f, a, s, c0, c1, c2, Nat.le_trans ha hm, r⟩
theorem Cu.chg {w w' : World} {B m lo hi : Nat} (hc : Chg lo hi w w') (hl : B < lo) (h : Cu w B m) : Cu w' B m := by
  obtain ⟨h1, h2, A, n, cap, f, a, s, c0, c1, c2, ha, hn, hf, hr⟩ := h
  have hB := hc.block B h1 (.inl hl)
  refine ⟨Nat.lt_of_lt_of_le h1 hc.size, fun i => (World.frozen?_of_block (w := w) (a := ⟨B, i, none⟩) hB).trans (h2 i), A, n, cap, f, a, s, (World.cell?_of_block (w := w) (a := ⟨B, 0, none⟩) hB).trans c0, (World.cell?_of_block (w := w) (a := ⟨B, 1, none⟩) hB).trans c1, (World.cell?_of_block (w := w) (a := ⟨B, 2, none⟩) hB).trans c2, ha, hn, hf, fun h0 => ?_⟩
  obtain ⟨b, off, e, hb, hcell⟩ := hr h0
  exact ⟨b, off, e, hb, fun j hj => (World.cell?_of_block (w := w) (a := ⟨b, off + j, none⟩) (hc.block b (by omega) (.inl (by omega)))).trans (hcell j hj)⟩
theorem Cu.below {w w' : World} {B m : Nat} (hb : Below w.heap.size w w') (h : Cu w B m) : Cu w' B m :=
  h.chg (lo := B + 1) (hi := B + 1) (Chg.of_below hb) (by omega)
theorem Cu.drew {w : World} {B m : Nat} (h : Cu w B m) : Cu w.drew B m := ⟨h.1, h.2, h.3⟩
theorem Cu.step {w : World} {B m : Nat} {A : Option Addr} {n cap a : Nat} {f : Nat → Int} {s : Int} (s' : Int) (h1 : B < w.heap.size) (h2 : ∀ i, w.frozen? ⟨B, i, none⟩ = false)
    (c0 : w.cell? ⟨B, 0, none⟩ = some (.slice A n cap)) (c1 : w.cell? ⟨B, 1, none⟩ = some (.int .i64 a)) (c2 : w.cell? ⟨B, 2, none⟩ = some (.int .u64 s)) (ha : a ≤ m) (hn : n ≤ 9223372036854775807)
    (hf : ∀ j, 0 ≤ f j ∧ f j ≤ 255) (hr : 0 < n → ∃ b off, A = some ⟨b, off, none⟩ ∧ b < B ∧ ∀ j, j < n → w.cell? ⟨b, off + j, none⟩ = some (.int .u8 (f j))) :
    Cu ((w.setCell ⟨B, 1, none⟩ (.int .i64 ((a : Int) + 1))).setCell ⟨B, 2, none⟩ (.int .u64 s')) B (m + 1) := by
  have d1 : (w.setCell ⟨B, 1, none⟩ (.int .i64 ((a : Int) + 1))).cell? ⟨B, 2, none⟩ = some (.int .u64 s) := by
    rw [World.cell?_setCell_other _ _ _ _ (by intro h; injection h with _ h _; omega)]; exact c2
  refine ⟨by simpa [World.setCell] using h1, fun i => by rw [World.frozen?_setCell, World.frozen?_setCell]; exact h2 i, A, n, cap, f, a + 1, s', ?_, ?_, ?_, by omega, hn, hf, fun h0 => ?_⟩
  · rw [World.cell?_setCell_other _ _ _ _ (by intro h; injection h with _ h _; omega), World.cell?_setCell_other _ _ _ _ (by intro h; injection h with _ h _; omega)]; exact c0
  · rw [World.cell?_setCell_other _ _ _ _ (by intro h; injection h with _ h _; omega), World.cell?_setCell_same _ _ _ c1]; rfl
  · rw [World.cell?_setCell_same _ _ _ d1]
  · obtain ⟨b, off, e, hb, hcell⟩ := hr h0
    refine ⟨b, off, e, hb, fun j hj => ?_⟩
    rw [World.cell?_setCell_other _ _ _ _ (by intro h; injection h with h _ _; omega), World.cell?_setCell_other _ _ _ _ (by intro h; injection h with h _ _; omega)]; exact hcell j hj
theorem chg_step (w : World) (B : Nat) (u v : Value) : Chg B (B + 1) w ((w.setCell ⟨B, 1, none⟩ u).setCell ⟨B, 2, none⟩ v) :=
  ((Chg.refl _ _ _).setCell (p := ⟨B, 1, none⟩) (Nat.le_refl _) (Nat.lt_succ_self _) u).setCell (p := ⟨B, 2, none⟩) (Nat.le_refl _) (Nat.lt_succ_self _) v
theorem Chg.drew {lo hi : Nat} {w w' : World} (h : Chg lo hi w w') : Chg lo hi w w'.drew := ⟨h.os, h.tape, h.output, h.size, h.block⟩
theorem and255 (x : Int) : 0 ≤ wrap64 (bits .and .u64 x 255) ∧ wrap64 (bits .and .u64 x 255) ≤ 255 := by
  have h : ∃ n : Nat, n ≤ 255 ∧ bits .and .u64 x 255 = (n : Int) := by
    refine ⟨(BitVec.ofInt 64 x &&& BitVec.ofInt 64 255).toNat, ?_, ?_⟩
    · rw [BitVec.toNat_and]; exact Nat.and_le_right
    · have hb : (BitVec.ofInt 64 x &&& BitVec.ofInt 64 255).toNat ≤ 255 := by rw [BitVec.toNat_and]; exact Nat.and_le_right
      show IntKind.u64.wrap (((BitVec.ofInt 64 x &&& BitVec.ofInt 64 255).toNat : Nat) : Int) = _
      generalize (BitVec.ofInt 64 x &&& BitVec.ofInt 64 255).toNat = n at hb ⊢
      simp only [IntKind.wrap, IntKind.bits, IntKind.signed]
      simp
      omega
  obtain ⟨n, hn, e⟩ := h
  rw [e]
  unfold wrap64
  omega
set_option maxHeartbeats 2000000 in
set_option maxRecDepth 10000 in
theorem C_next (B m : Nat) (w : World) (h : Cu w B m) (hm : m ≤ 1099511627776) :
    Calls Tryz.prog 82 #[.pointer (some ⟨B, 0, none⟩)] w fun e w' => ∃ x : Int, e = .returned (.int .i64 x) ∧ (0 ≤ x ∧ x ≤ 255) ∧ Cu w' B (m + 1) ∧ Chg B (B + 1) w w' := by
  obtain ⟨h1, h2, A, n, cap, f, a, s, c0, c1, c2, ha, hn, hf, hr⟩ := h
  have HR := Lib.hid hr
  have HF := Lib.hid hf
  clear hr hf
  by_cases hlt : a < n
  · obtain ⟨b, off, rfl, hb, hcell⟩ := HR.out (by omega)
    have hck := hcell a hlt
    obtain ⟨f0, f1⟩ := HF.out a
    have hlt' : (a : Int) < (n : Int) := by omega
    have hne : b ≠ B := by omega
    clear hcell
    go_enter Tryz.func82, Tryz.ntmps82
    go_wp2
    go_region
    go_wp2
    go_region
    go_wp2
    go_region
    go_wp2
    go_ret
    refine ⟨_, rfl, ⟨f0, f1⟩, ?_, ?_⟩
    · exact (Cu.step _ h1 h2 c0 c1 c2 ha hn HF.out HR.out).drew.drew.drew
    · exact (chg_step _ _ _ _).drew.drew.drew
  · have hlt' : ¬ (a : Int) < (n : Int) := by omega
    go_enter Tryz.func82, Tryz.ntmps82
    go_wp2
    go_region
    go_wp2
    go_region
    go_wp2
    go_ret
    refine ⟨_, rfl, and255 _, ?_, ?_⟩
    · exact (Cu.step _ h1 h2 c0 c1 c2 ha hn HF.out HR.out).drew.drew
    · exact (chg_step _ _ _ _).drew.drew
end Go.Proofs.YtjmfkenhnfdbjaaGreatDoor

/- What the draws of the cursor compute, as far as it matters. No condition but those stated. -/
namespace Go.Proofs.YtjmfkenhnfdbjaaGreatDoor
set_option linter.unusedVariables false
set_option linter.unusedSimpArgs false
open Go.RowKit Go.Sort
theorem Chg.grown {B : Nat} {w w' : World} (h : Chg B (B + 1) w w') : w.grownBy w' (some B) :=
  ⟨h.os, h.tape, h.output, h.size, fun i hi hne => h.block i hi (by have : i ≠ B := (fun e => hne (by rw [e])); omega)⟩
theorem Chg.of_grown {B : Nat} {w w' : World} (h : w.grownBy w' (some B)) : Chg B (B + 1) w w' :=
  ⟨h.os, h.tape, h.output, h.size, fun i hi hr => h.block i hi (by intro e; injection e with e; omega)⟩
theorem C_pick (B m : Nat) (n : Int) (w : World) (h : Cu w B m) (hm : m ≤ 1099511627776) (h1 : 1 ≤ n) (h2 : n ≤ 200) :
    Calls Tryz.prog 65 #[.pointer (some ⟨B, 0, none⟩), .int .i64 n] w fun e w' => ∃ r : Int, e = .returned (.int .i64 r) ∧ (0 ≤ r ∧ r < n) ∧ Cu w' B (m + 1) ∧ w.grownBy w' (some B) := by
  by_cases h1' : n ≤ 1
  · go_enter Tryz.func65, Tryz.ntmps65
    go_wp2_with fail
    go_ret
    exact ⟨0, rfl, ⟨by omega, by omega⟩, h.mono (by omega), World.grownBy.refl _ _⟩
  · go_enter Tryz.func65, Tryz.ntmps65
    go_wp2_with fail
    refine (C_next B m _ h hm).mono ?_; rintro e w1 ⟨x, rfl, ⟨hx0, hx1⟩, hcu, hc⟩
    go_wp2_with fail
    go_ret
    exact ⟨_, rfl, ⟨Int.emod_nonneg _ (by omega), Int.emod_lt_of_pos _ (by omega)⟩, hcu, hc.grown⟩
theorem C_one (B m : Nat) (n : Int) (w : World) (h : Cu w B m) (hm : m ≤ 1099511627776) (h1 : 1 ≤ n) (h2 : n ≤ 200) :
    Calls Tryz.prog 49 #[.pointer (some ⟨B, 0, none⟩), .int .i64 n] w fun e w' => ∃ b : Bool, e = .returned (.bool b) ∧ Cu w' B (m + 1) ∧ w.grownBy w' (some B) := by
  go_enter Tryz.func49, Tryz.ntmps49
  go_wp2_with fail
  refine (C_pick B m n _ h hm h1 h2).mono ?_; rintro e w1 ⟨x, rfl, ⟨hx0, hx1⟩, hcu, hc⟩
  go_wp2_with fail
  go_ret
  exact ⟨_, rfl, hcu, hc⟩
theorem C_among (B m : Nat) (xs : List Int) (w : World) (h : Cu w B m) (hm : m ≤ 1099511627776) (h1 : 1 ≤ xs.length) (h2 : xs.length ≤ 200) :
    Calls Tryz.prog 35 #[.pointer (some ⟨B, 0, none⟩), .slice (some ⟨w.heap.size, 0, none⟩) xs.length xs.length] (w.alloc (.cells (xs.map (Value.int .i64)).toArray 3)) fun e w' => ∃ x : Int, e = .returned (.int .i64 x) ∧ x ∈ xs ∧ Cu w' B (m + 1) ∧ (w.alloc (.cells (xs.map (Value.int .i64)).toArray 3)).grownBy w' (some B) := by
  have hlt := h.lt
  obtain ⟨w0, hw0⟩ : ∃ w0, w0 = w.alloc (.cells (xs.map (Value.int .i64)).toArray 3) := ⟨_, rfl⟩
  have hcu0 : Cu w0 B m := by rw [hw0]; exact h.below ((Below.refl _ _).alloc (Nat.le_refl _) _)
  have hz0 : w0.heap.size = w.heap.size + 1 := by rw [hw0]; simp
  have hcells : ∀ j, j < xs.length → w0.cell? ⟨w.heap.size, j, none⟩ = some (.int .i64 (ai xs j)) := fun j hj => by
    rw [hw0]; exact cell_new _ _ _ _ _ (by rw [List.getElem?_toArray]; exact ai_map hj)
  have hmem : ∀ j, j < xs.length → ai xs j ∈ xs := fun j hj => List.mem_of_getElem? (ai_lt hj)
  rw [← hw0]
  obtain ⟨n, hn⟩ : ∃ n, xs.length = n := ⟨_, rfl⟩
  obtain ⟨g, hg⟩ : ∃ g, w.heap.size = g := ⟨_, rfl⟩
  rw [hn] at h1 h2 hcells hmem ⊢
  rw [hg] at hcells hz0 hlt ⊢
  have HC := Lib.hid hcells
  have HM := Lib.hid hmem
  clear hw0 hn hg hcells hmem h
  go_enter Tryz.func35, Tryz.ntmps35
  go_wp2_with fail
  refine (C_pick B m n _ hcu0 hm (by omega) (by omega)).mono ?_; rintro e w1 ⟨x, rfl, ⟨hx0, hx1⟩, hcu, hc⟩
  obtain ⟨r, rfl⟩ : ∃ r : Nat, x = (r : Int) := ⟨x.toNat, by omega⟩
  have hr : r < n := by omega
  have hck : w1.cell? ⟨g, r, none⟩ = some (.int .i64 (ai xs r)) := (World.cell?_of_block (w := w0) (a := ⟨g, r, none⟩) (hc.block g (by omega) (by intro e; injection e with e; omega))).trans (HC.out r hr)
  go_wp2_with fail
  go_ret
  exact ⟨_, rfl, HM.out r hr, hcu, hc⟩
end Go.Proofs.YtjmfkenhnfdbjaaGreatDoor

/- The bytes that a law is handed: opened; the cursor at their start; whether they are too many. No condition but those stated. -/
namespace Go.Proofs.YtjmfkenhnfdbjaaGreatDoor
set_option linter.unusedVariables false
set_option linter.unusedSimpArgs false
open Go.ChangeShapes Go.WideShapes Go.ChangeAt Go.RowKit Go.Deep Go.Joins
/-- The value v is a slice of n bytes. -/
def SU (w : World) (v : Value) (n : Nat) : Prop :=
  ∃ (A : Option Addr) (cap : Nat) (f : Nat → Int), v = .slice A n cap ∧ n ≤ 9223372036854775807 ∧ (∀ j, 0 ≤ f j ∧ f j ≤ 255) ∧ (0 < n → ∃ b off, A = some ⟨b, off, none⟩ ∧ b < w.heap.size ∧ ∀ j, j < n → w.cell? ⟨b, off + j, none⟩ = some (.int .u8 (f j)))
theorem SU.below {w w' : World} {v : Value} {n : Nat} (h : SU w v n) (hb : Below w.heap.size w w') : SU w' v n := by
  obtain ⟨A, cap, f, e, hn, hf, hr⟩ := h
  refine ⟨A, cap, f, e, hn, hf, fun h0 => ?_⟩
  obtain ⟨b, off, ea, hl, hc⟩ := hr h0
  exact ⟨b, off, ea, Nat.lt_of_lt_of_le hl hb.size, fun j hj => (hb.cell (p := ⟨b, off + j, none⟩) hl).trans (hc j hj)⟩
theorem Cu.start {w : World} {v : Value} {n : Nat} (h : SU w v n) (T : TypeId) : Cu (w.alloc (.cells #[v, .int .i64 0, .int .u64 0] T)) w.heap.size 0 := by
  obtain ⟨A, cap, f, rfl, hn, hf, hr⟩ := h
  refine ⟨by simp, fun i => by simp, A, n, cap, f, 0, 0, by simp, by simp, by simp, Nat.le_refl _, hn, hf, fun h0 => ?_⟩
  obtain ⟨b, off, ea, hl, hc⟩ := hr h0
  exact ⟨b, off, ea, hl, fun j hj => (World.cell?_alloc_lt _ _ _ hl).trans (hc j hj)⟩
section
variable {H : Type} {enc : TypeId × Value → H} {w : World} {base : Nat} {spare : Nat → Bool} {held : Bool}
theorem su_of_cells {a : Addr} {n : Nat} {f : Nat → Int} (h : ∀ i, i < n → w.cell? (a.add i) = some (.int .u8 (f i))) :
    0 < n → ∃ b off, some a = some ⟨b, off, none⟩ ∧ b < w.heap.size ∧ ∀ j, j < n → w.cell? ⟨b, off + j, none⟩ = some (.int .u8 (f j)) := fun h0 => by
  have h00 := h 0 h0
  obtain ⟨b, off, spot⟩ := a
  have hs : spot = none := by simpa [Addr.add] using World.cell?_spot h00
  subst hs
  refine ⟨b, off, rfl, ?_, fun j hj => ?_⟩
  · have := World.block_lt_of_cell? w _ h00
    simpa [Addr.add] using this
  · have := h j hj
    unfold Addr.add at this
    by_cases e : j = 0
    · subst e; simpa using this
    · rw [if_neg e] at this; exact this
theorem u8_wf {x : Int} (h : (Lit.int .u8 x).wf = true) : 0 ≤ x ∧ x ≤ 255 := by
  simp only [Lit.wf, IntKind.min, IntKind.max, IntKind.signed, IntKind.bits, Bool.and_eq_true, decide_eq_true_eq, Bool.false_eq_true, if_false] at h
  omega
set_option maxRecDepth 100000 in
theorem view_Suint8 {r : Reach} {b0 : Nat} {v : Value} {d : DataW H} {p : List MemPlace} (hv : Value.okWide Tryz.prog w r b0 22 v) (h : DataW.Trod enc Tryz.prog w base spare held 22 v d p) :
    ∃ n : Nat, SU w v n := by
  obtain ⟨a0, len0, cap0, rfl⟩ := okWide_slice Tryz.underlying22 hv
  obtain ⟨fuel, hf⟩ := h
  rcases open_ints Tryz.underlying22 Tryz.underlying5 (by kernel_rfl) hf with ⟨hcs, _⟩ | ⟨a, len, cap, zs, hcs, _, hl, hm, hz, _, hcell, hwz⟩
  · simp [Value.cells] at hcs
    obtain ⟨rfl, rfl, rfl⟩ := hcs
    exact ⟨0, none, 0, fun _ => 0, rfl, by omega, fun _ => (show (0 : Int) ≤ 0 ∧ (0 : Int) ≤ 255 from ⟨by decide, by decide⟩), fun h => absurd h (by omega)⟩
  · simp [Value.cells] at hcs
    obtain ⟨rfl, rfl, rfl⟩ := hcs
    have hle : len0 ≤ zs.length := by rw [hz]; split <;> omega
    refine ⟨len0, some a, cap0, fun j => zs.getD j 0, rfl, by unfold maxLen at hm; omega, fun j => ?_, su_of_cells fun i hi => hcell i (by omega)⟩
    show 0 ≤ zs.getD j 0 ∧ zs.getD j 0 ≤ 255
    rw [List.getD_eq_getElem?_getD]
    by_cases hj : j < zs.length
    · rw [List.getElem?_eq_getElem hj]
      exact u8_wf (hwz _ (List.getElem_mem _))
    · rw [List.getElem?_eq_none (by omega)]
      exact ⟨by decide, by decide⟩
end
theorem C_vBig (v : Value) (n : Nat) (w : World) (h : SU w v n) :
    Calls Tryz.prog 5 #[v] w fun e w' => e = .returned (.bool (decide (65536 < (n : Int)))) ∧ w = w' := by
  obtain ⟨A, cap, f, rfl, hn, hf, hr⟩ := h
  clear hr hf
  go_enter Tryz.func5, Tryz.ntmps5
  go_wp2
  go_ret
  exact ⟨rfl, rfl⟩
end Go.Proofs.YtjmfkenhnfdbjaaGreatDoor

/- The cursor: what all draws share. No condition but those stated. -/
namespace Go.Proofs.YtjmfkenhnfdbjaaGreatDoor
set_option linter.unusedVariables false
set_option linter.unusedSimpArgs false
open Go.RowKit Go.Sort
def isI : Value → Bool
  | .int .i64 _ => true
  | _ => false
def unI : Value → Int
  | .int _ x => x
  | _ => 0
theorem isI_un {v : Value} (h : isI v = true) : v = .int .i64 (unI v) := by
  cases v with
  | int k x => cases k <;> first | rfl | cases h
  | _ => cases h
def isT : Value → Bool
  | .string _ => true
  | _ => false
def unT : Value → ByteArray
  | .string x => x
  | _ => ByteArray.empty
theorem isT_un {v : Value} (h : isT v = true) : v = .string (unT v) := by
  cases v with
  | string x => rfl
  | _ => cases h
theorem SU.form {w : World} {v : Value} {n : Nat} (h : SU w v n) : ∃ A cap, v = .slice A n cap := by
  obtain ⟨A, cap, f, e, _⟩ := h; exact ⟨A, cap, e⟩
theorem Chg.setNew {lo hi : Nat} {a b : World} (h : Chg lo hi a b) {p : Addr} (hp : a.heap.size ≤ p.block) (u : Value) : Chg lo hi a (b.setCell p u) :=
  ⟨h.os, h.tape, h.output, by simpa [World.setCell] using h.size, fun k hk hr => (Below.heap_setCell _ _ _ _ (by omega)).trans (h.block k hk hr)⟩
theorem Chg.alloc {lo hi : Nat} {a b : World} (h : Chg lo hi a b) (o : Obj) : Chg lo hi a (b.alloc o) :=
  h.trans (Chg.of_below ((Below.refl _ _).alloc (Nat.le_refl _) o))
theorem Chg.regrown {lo hi : Nat} {a b : World} (h : Chg lo hi a b) (d : Nat) (os : Array Obj) : Chg lo hi a (grow (redrawn b d) os) :=
  h.trans (Chg.of_below (below_regrown _ _ _))
theorem Cu.alloc {w : World} {B m : Nat} (h : Cu w B m) (o : Obj) : Cu (w.alloc o) B m := h.below ((Below.refl _ _).alloc (Nat.le_refl _) o)
theorem Cu.setFar {w : World} {B m : Nat} (h : Cu w B m) {p : Addr} (hp : B < p.block) (u : Value) : Cu (w.setCell p u) B m :=
  h.chg (lo := p.block) (hi := p.block + 1) ((Chg.refl _ _ _).setCell (Nat.le_refl _) (Nat.lt_succ_self _) u) hp
theorem row_chg {w w' : World} {g n : Nat} {T : TypeId} {F : Nat → Value} {lo hi : Nat} (h : w.rowIs g T n F) (hc : Chg lo hi w w') (hr : g < lo ∨ hi ≤ g) : w'.rowIs g T n F := h.of_block (hc.block g h.lt hr)
theorem row_alloc {w : World} {g n : Nat} {T : TypeId} {F : Nat → Value} (h : w.rowIs g T n F) (o : Obj) : (w.alloc o).rowIs g T n F := h.of_block (Below.heap_alloc _ _ _ h.lt)
/-- A row that is just made out of a literal. -/
theorem row_lit (w : World) (cs : Array Value) (T : TypeId) : (w.alloc (.cells cs T)).rowIs w.heap.size T cs.size (fun j => cs.getD j undef) :=
  World.rowIs_alloc w cs T _ (fun i hi => by simp [Array.getD, hi])
theorem lit_get {cs : Array Value} {q : Value → Bool} (h : cs.toList.all q = true) {j : Nat} (hj : j < cs.size) : q (cs.getD j undef) = true := by
  have e : cs.getD j undef = cs[j] := by simp [Array.getD, hj]
  rw [e]
  exact List.all_eq_true.1 h _ (by simp)
theorem C_amongR (B m : Nat) (cs : Array Value) (n cap g : Nat) (w : World) (T : TypeId) (hrow : w.rowIs g T cs.size (fun j => cs.getD j undef)) (hg : g ≠ B) (h : Cu w B m) (hm : m ≤ 1099511627776) (h1 : 1 ≤ n) (hn : n ≤ cs.size) (h2 : n ≤ 200)
    (p : Int → Bool) (hall : cs.toList.all (fun v => isI v && p (unI v)) = true) :
    Calls Tryz.prog 35 #[.pointer (some ⟨B, 0, none⟩), .slice (some ⟨g, 0, none⟩) n cap] w fun e w' => ∃ x : Int, e = .returned (.int .i64 x) ∧ p x = true ∧ Cu w' B (m + 1) ∧ w.grownBy w' (some B) := by
  have hlt := h.lt
  have hgl := hrow.lt
  have hcells : ∀ j, j < n → ∃ y, w.cell? ⟨g, j, none⟩ = some (.int .i64 y) ∧ p y = true := fun j hj => by
    have hq := lit_get hall (show j < cs.size by omega)
    simp only [Bool.and_eq_true] at hq
    refine ⟨unI (cs.getD j undef), ?_, hq.2⟩
    rw [hrow.cell (i := j) (by omega)]
    exact congrArg some (isI_un hq.1)
  have HC := Lib.hid hcells
  have hg' : g ≠ B := hg
  clear hcells hrow hall hg hn
  go_enter Tryz.func35, Tryz.ntmps35
  go_wp2_with fail
  refine (C_pick B m n _ h hm (by omega) (by omega)).mono ?_; rintro e w1 ⟨x, rfl, ⟨hx0, hx1⟩, hcu, hc⟩
  obtain ⟨r, rfl⟩ : ∃ r : Nat, x = (r : Int) := ⟨x.toNat, by omega⟩
  have hr : r < n := by omega
  obtain ⟨y, hy, hp⟩ := HC.out r hr
  have hck : w1.cell? ⟨g, r, none⟩ = some (.int .i64 y) := (World.cell?_of_block (w := w) (a := ⟨g, r, none⟩) (hc.block g hgl (by intro e; injection e with e; exact hg' e))).trans hy
  have HP := Lib.hid hp
  clear hy hp
  go_wp2_with fail
  go_ret
  exact ⟨_, rfl, HP.out, hcu, hc⟩
def anyI (_ : Int) : Bool := true
def i64B (x : Int) : Bool := decide (-9223372036854775808 ≤ x) && decide (x ≤ 9223372036854775807)
theorem i64_of {x : Int} (h : i64B x = true) : I64 x := by simpa [i64B, I64] using h
theorem C_ofR (B m : Nat) (cs : Array Value) (n cap g : Nat) (w : World) (T : TypeId) (hrow : w.rowIs g T cs.size (fun j => cs.getD j undef)) (hg : g ≠ B) (h : Cu w B m) (hm : m ≤ 1099511627776) (h1 : 1 ≤ n) (hn : n ≤ cs.size) (h2 : n ≤ 200)
    (p : ByteArray → Bool) (hall : cs.toList.all (fun v => isT v && p (unT v)) = true) :
    Calls Tryz.prog 50 #[.pointer (some ⟨B, 0, none⟩), .slice (some ⟨g, 0, none⟩) n cap] w fun e w' => ∃ x : ByteArray, e = .returned (.string x) ∧ p x = true ∧ Cu w' B (m + 1) ∧ w.grownBy w' (some B) := by
  have hlt := h.lt
  have hgl := hrow.lt
  have hcells : ∀ j, j < n → ∃ y, w.cell? ⟨g, j, none⟩ = some (.string y) ∧ p y = true := fun j hj => by
    have hq := lit_get hall (show j < cs.size by omega)
    simp only [Bool.and_eq_true] at hq
    refine ⟨unT (cs.getD j undef), ?_, hq.2⟩
    rw [hrow.cell (i := j) (by omega)]
    exact congrArg some (isT_un hq.1)
  have HC := Lib.hid hcells
  have hg' : g ≠ B := hg
  clear hcells hrow hall hg hn
  go_enter Tryz.func50, Tryz.ntmps50
  go_wp2_with fail
  refine (C_pick B m n _ h hm (by omega) (by omega)).mono ?_; rintro e w1 ⟨x, rfl, ⟨hx0, hx1⟩, hcu, hc⟩
  obtain ⟨r, rfl⟩ : ∃ r : Nat, x = (r : Int) := ⟨x.toNat, by omega⟩
  have hr : r < n := by omega
  obtain ⟨y, hy, hp⟩ := HC.out r hr
  have hck : w1.cell? ⟨g, r, none⟩ = some (.string y) := (World.cell?_of_block (w := w) (a := ⟨g, r, none⟩) (hc.block g hgl (by intro e; injection e with e; exact hg' e))).trans hy
  have HP := Lib.hid hp
  clear hy hp
  go_wp2_with fail
  go_ret
  exact ⟨_, rfl, HP.out, hcu, hc⟩
end Go.Proofs.YtjmfkenhnfdbjaaGreatDoor

/- Queries that are drawn. No condition but those stated. -/
namespace Go.Proofs.YtjmfkenhnfdbjaaGreatDoor
set_option linter.unusedVariables false
set_option linter.unusedSimpArgs false
open Go.RowKit Go.Sort
theorem C_ofL (B m : Nat) (cs : Array Value) (n cap g : Nat) (w : World) (T : TypeId) (hg : w.heap.size = g) (h : Cu w B m) (hm : m ≤ 1099511627776) (h1 : 1 ≤ n) (hn : n ≤ cs.size) (h2 : n ≤ 200)
    (p : ByteArray → Bool) (hall : cs.toList.all (fun v => isT v && p (unT v)) = true) :
    Calls Tryz.prog 50 #[.pointer (some ⟨B, 0, none⟩), .slice (some ⟨g, 0, none⟩) n cap] (w.alloc (.cells cs T)) fun e w' => ∃ x : ByteArray, e = .returned (.string x) ∧ p x = true ∧ Cu w' B (m + 1) ∧ w.grownBy w' (some B) := by
  subst hg
  have hl := h.lt
  refine (C_ofR B m cs n cap _ _ T (row_lit w cs T) (by omega) (h.alloc _) hm h1 hn h2 p hall).mono ?_
  rintro e w' ⟨x, rfl, hp, hc, hb⟩
  exact ⟨x, rfl, hp, hc, ((Chg.of_below (lo := B) (hi := B + 1) ((Below.refl _ _).alloc (Nat.le_refl _) _)).trans (Chg.of_grown hb)).grown⟩
theorem C_amongLc (B m : Nat) (cs : Array Value) (n cap g : Nat) (w : World) (T : TypeId) (hg : w.heap.size = g) (h : Cu w B m) (hm : m ≤ 1099511627776) (h1 : 1 ≤ n) (hn : n ≤ cs.size) (h2 : n ≤ 200)
    (p : Int → Bool) (hall : cs.toList.all (fun v => isI v && p (unI v)) = true) :
    Calls Tryz.prog 35 #[.pointer (some ⟨B, 0, none⟩), .slice (some ⟨g, 0, none⟩) n cap] (w.alloc (.cells cs T)) fun e w' => ∃ x : Int, e = .returned (.int .i64 x) ∧ p x = true ∧ Cu w' B (m + 1) ∧ w.grownBy w' (some B) := by
  subst hg
  have hl := h.lt
  refine (C_amongR B m cs n cap _ _ T (row_lit w cs T) (by omega) (h.alloc _) hm h1 hn h2 p hall).mono ?_
  rintro e w' ⟨x, rfl, hp, hc, hb⟩
  exact ⟨x, rfl, hp, hc, ((Chg.of_below (lo := B) (hi := B + 1) ((Below.refl _ _).alloc (Nat.le_refl _) _)).trans (Chg.of_grown hb)).grown⟩
def sh4 (x : ByteArray) : Bool := decide (x.size ≤ 6)
theorem sh4_le {x : ByteArray} (h : sh4 x = true) : x.size ≤ 6 := by simpa [sh4] using h
set_option maxRecDepth 100000 in
theorem C_queryTest (B m : Nat) (w : World) (hcu : Cu w B m) (hm : m ≤ 900000) :
    Calls Tryz.prog 64 #[.pointer (some ⟨B, 0, none⟩)] w fun e w' => ∃ x : ByteArray, e = .returned (.string x) ∧ x.size ≤ 6 ∧ Cu w' B (m + 1) ∧ Chg B (B + 1) w w' := by
  go_enter Tryz.func64, Tryz.ntmps64
  go_wp2_with fail
  refine (C_ofL B m _ 12 12 _ w _ (by rfl) hcu (by omega) (by omega) (by decide) (by omega) sh4 (by decide)).mono ?_; rintro e w1 ⟨x, rfl, hx, cu1, hb1⟩
  have HX := Lib.hid (sh4_le hx)
  have HB := Lib.hid (Chg.of_grown hb1)
  clear hx hb1
  go_wp2
  go_ret
  exact ⟨x, rfl, HX.out, cu1, HB.out⟩
theorem str_empty {s : ByteArray} (h : s.size = 0) : s = ⟨#[]⟩ := by
  obtain ⟨d⟩ := s
  have : d = #[] := Array.eq_empty_of_size_eq_zero h
  rw [this]
set_option maxHeartbeats 4000000 in
theorem C_spoilt (B m : Nat) (s f : ByteArray) (w : World) (hcu : Cu w B m) (hm : m ≤ 900000) (hs : s.size ≤ 100) (hf0 : 1 ≤ f.size) (hf : f.size ≤ 100) :
    Calls Tryz.prog 66 #[.pointer (some ⟨B, 0, none⟩), .string s, .string f] w fun e w' => ∃ x : ByteArray, e = .returned (.string x) ∧ x.size ≤ s.size + 1 ∧ Cu w' B (m + 3) ∧ Chg B (B + 1) w w' := by
  cases e0 : s.toList.isEmpty
  · have h0 : s.size ≠ 0 := fun h => by
      rw [str_empty h] at e0
      rw [show (⟨#[]⟩ : ByteArray).toList.isEmpty = true by first | rfl | decide +kernel | (simp [ByteArray.toList, ByteArray.toList.loop]; done) | (unfold ByteArray.toList; rw [ByteArray.toList.loop]; rfl)] at e0
      cases e0
    go_enter Tryz.func66, Tryz.ntmps66
    go_wp2_with fail
    refine (C_pick B m _ w hcu (by omega) (by omega) (by omega)).mono ?_; rintro e w1 ⟨a0, rfl, ⟨ha0, ha1⟩, cu1, hb1⟩
    obtain ⟨a, rfl⟩ : ∃ a : Nat, a0 = (a : Int) := ⟨a0.toNat, by omega⟩
    have ha : a < s.size := by omega
    have HC1 := Lib.hid (Chg.of_grown hb1)
    clear hb1 hcu
    go_wp2_with fail
    refine (C_pick B _ _ w1 cu1 (by omega) (by omega) (by omega)).mono ?_; rintro e w2 ⟨b0, rfl, ⟨hb0, hb1⟩, cu2, hbb⟩
    obtain ⟨b, rfl⟩ : ∃ b : Nat, b0 = (b : Int) := ⟨b0.toNat, by omega⟩
    have hb : b < f.size := by omega
    have HC2 := Lib.hid (HC1.out.trans (Chg.of_grown hbb))
    obtain ⟨g, hg⟩ : ∃ g, f.extract b f.size = g := ⟨_, rfl⟩
    have hgs : g.size = f.size - b := by rw [← hg, ByteArray.size_extract]; omega
    have hg1 : 1 ≤ g.size := by omega
    have hgi : (1 : Int) ≤ (g.size : Int) := by omega
    have hbf : (b : Int) ≤ (f.size : Int) := by omega
    have haf : (a : Int) ≤ (s.size : Int) := by omega
    have haf1 : (a : Int) + 1 ≤ (s.size : Int) := by omega
    clear hbb cu1 hgs
    go_wp2_with fail
    refine (C_pick B _ 3 w2 cu2 (by omega) (by omega) (by omega)).mono ?_; rintro e w3 ⟨c0, rfl, ⟨hc0, hc1⟩, cu3, hbc⟩
    have HC3 := Lib.hid (HC2.out.trans (Chg.of_grown hbc))
    clear hbc cu2
    have hway : c0 = 0 ∨ c0 = 1 ∨ c0 = 2 := by omega
    rcases hway with rfl | rfl | rfl
    · go_wp2
      go_quiet (fail)
      go_wp2
      go_ret
      exact ⟨_, rfl, by simp only [ByteArray.size_append, ByteArray.size_extract]; omega, cu3.below (below_drewN (Below.refl _ _) _), HC3.out.trans (Chg.of_below (below_drewN (Below.refl _ _) _))⟩
    · go_wp2
      go_quiet (fail)
      go_wp2
      go_ret
      exact ⟨_, rfl, by simp only [ByteArray.size_append, ByteArray.size_extract]; omega, cu3.below (below_drewN (Below.refl _ _) _), HC3.out.trans (Chg.of_below (below_drewN (Below.refl _ _) _))⟩
    · go_wp2
      go_quiet (fail)
      go_wp2
      go_ret
      exact ⟨_, rfl, by simp only [ByteArray.size_append, ByteArray.size_extract]; omega, cu3.below (below_drewN (Below.refl _ _) _), HC3.out.trans (Chg.of_below (below_drewN (Below.refl _ _) _))⟩
  · have hf1 : (1 : Int) ≤ (f.size : Int) := by omega
    go_enter Tryz.func66, Tryz.ntmps66
    go_wp2
    go_ret
    exact ⟨_, rfl, by rw [ByteArray.size_extract]; omega, hcu.mono (by omega), Chg.refl _ _ _⟩
def szV : Value → Nat
  | .string s => s.size
  | _ => 0
theorem mk1 (a : UInt8) : (ByteArray.mk #[a]).size = 1 := rfl
theorem mk2 (a b : UInt8) : (ByteArray.mk #[a, b]).size = 2 := rfl
theorem mk3 (a b c : UInt8) : (ByteArray.mk #[a, b, c]).size = 3 := rfl
/-- What the drawing of a query keeps. -/
structure QD (B m z : Nat) (w W : World) (v : Value) : Prop where
  str : ∃ s : ByteArray, v = .string s ∧ s.size ≤ z
  cu : Cu W B m
  ch : Chg B (B + 1) w W
set_option maxHeartbeats 8000000 in
theorem C_query (B m : Nat) (w : World) (hcu : Cu w B m) (hm : m ≤ 800000) :
    Calls Tryz.prog 33 #[.pointer (some ⟨B, 0, none⟩)] w fun e w' => ∃ s : ByteArray, e = .returned (.string s) ∧ s.size ≤ 64 ∧ Cu w' B (m + 200) ∧ Chg B (B + 1) w w' := by
  go_enter Tryz.func33, Tryz.ntmps33
  go_wp2_with fail
  refine (C_queryTest B m w hcu (by omega)).mono ?_; rintro e w1 ⟨s1, rfl, hs1, cu1, hc1⟩
  have HC1 := Lib.hid hc1
  clear hc1 hcu
  go_wp2_with fail
  refine (C_pick B _ 5 w1 cu1 (by omega) (by omega) (by omega)).mono ?_; rintro e w2 ⟨a0, rfl, ⟨ha0, ha1⟩, cu2, hb2⟩
  obtain ⟨a, rfl⟩ : ∃ a : Nat, a0 = (a : Int) := ⟨a0.toNat, by omega⟩
  have ha : a ≤ 4 := by omega
  have HC2 := Lib.hid (HC1.out.trans (Chg.of_grown hb2))
  have CU2 := Lib.hid cu2
  clear hb2 cu1 cu2 HC1
  go_wp2
  go_loopw [3, 4] (fun q i wr => ∃ (k : Nat) (s : ByteArray), k ≤ 4 ∧ i = .int .i64 k ∧ q = .string s ∧ s.size + 7 * k ≤ 34 ∧ Cu wr B (m + 2 + 2 * (4 - k)) ∧ Chg B (B + 1) w wr) (fun _ i _ => (intOf i).toNat)
  case atStart => exact ⟨a, s1, ha, rfl, rfl, by omega, CU2.out.mono (by omega), HC2.out⟩
  case round =>
    obtain ⟨k, s, hk, rfl, rfl, hs, hcu, hc⟩ := hrel
    have HC := Lib.hid hc
    clear hc CU2 HC2
    by_cases hlt : 0 < k
    · have hlt2 : (0 : Int) < (k : Int) := by omega
      have hk1 : Value.int .i64 ((k : Int) - 1) = .int .i64 ((k - 1 : Nat) : Int) := by rw [show ((k - 1 : Nat) : Int) = (k : Int) - 1 by omega]
      have HK1 := Lib.hid hk1
      clear hk1
      go_wp2_with fail
      refine (C_pick B _ 6 wr hcu (by omega) (by omega) (by omega)).mono ?_; rintro e w3 ⟨r, rfl, ⟨hr0, hr1⟩, cu3, hb3⟩
      have HC3 := Lib.hid (HC.out.trans (Chg.of_grown hb3))
      clear hb3 hcu
      have hway : r = 0 ∨ r = 1 ∨ (r = 2 ∨ r = 3) ∨ (r = 4 ∨ r = 5) := by omega
      rcases hway with rfl | rfl | (rfl | rfl) | (rfl | rfl)
      · go_wp2
        go_roundw
        case rel => exact ⟨k - 1, _, by omega, HK1.out, rfl, by (try simp only [ByteArray.size_append, mk1, mk2, mk3]); omega, cu3.mono (by omega), HC3.out⟩
        case measure => simp [intOf]; omega
      · go_wp2
        go_roundw
        case rel => exact ⟨k - 1, _, by omega, HK1.out, rfl, by (try simp only [ByteArray.size_append, mk1, mk2, mk3]); omega, cu3.mono (by omega), HC3.out⟩
        case measure => simp [intOf]; omega
      all_goals
        go_wp2_with fail
        refine (C_queryTest B _ w3 cu3 (by omega)).mono ?_; rintro e w4 ⟨s4, rfl, hs4, cu4, hc4⟩
        have HC4 := Lib.hid (HC3.out.trans hc4)
        clear hc4
        go_wp2
        go_roundw
        case rel => exact ⟨k - 1, _, by omega, HK1.out, rfl, by (try simp only [ByteArray.size_append, mk1, mk2, mk3]); omega, cu4.mono (by omega), HC4.out⟩
        case measure => simp [intOf]; omega
    · obtain rfl : k = 0 := by omega
      have hz : ¬ (0 : Int) < ((0 : Nat) : Int) := by omega
      have hs34 : s.size ≤ 34 := by omega
      clear hs
      go_wp2_with fail
      refine (C_one B _ 4 wr hcu (by omega) (by omega) (by omega)).mono ?_; rintro e w5 ⟨b, rfl, cu5, hb5⟩
      have HC5 := Lib.hid (HC.out.trans (Chg.of_grown hb5))
      clear hb5 hcu
      cases b
      · skip
        go_wp2_with fail
        refine (C_pick B _ 24 w5 cu5 (by omega) (by omega) (by omega)).mono ?_; rintro e w8 ⟨q, rfl, ⟨hq0, hq1⟩, cu8, hb8⟩
        have HC8 := Lib.hid (HC5.out.trans (Chg.of_grown hb8))
        clear hb8
        have hway : q = 0 ∨ q = 1 ∨ 2 ≤ q := by omega
        rcases hway with rfl | rfl | hq2
        · go_wp2_with fail
          refine (C_spoilt B _ _ _ w8 cu8 (by omega) (by (try simp only [ByteArray.size_append, mk1, mk2, mk3]); omega) (by decide) (by decide)).mono ?_; rintro e w9 ⟨x9, rfl, hx9, cu9, hc9⟩
          have HC9 := Lib.hid (HC8.out.trans hc9)
          have HX9 := Lib.hid (show x9.size ≤ 64 by revert hx9; (try simp only [ByteArray.size_append, mk1, mk2, mk3]); omega)
          clear hc9 hx9
          go_wp2
          go_ret
          exact ⟨x9, rfl, HX9.out, cu9.mono (by omega), HC9.out⟩
        · go_wp2
          go_loopw [3] (fun v wr => ∃ s : ByteArray, v = .string s ∧ s.size ≤ 63 ∧ Cu wr B (m + 20 + s.size) ∧ Chg B (B + 1) w wr) (fun v _ => 64 - szV v)
          case atStart => exact ⟨_, rfl, by (try simp only [ByteArray.size_append, mk1, mk2, mk3]); omega, cu8.mono (by omega), HC8.out⟩
          case round =>
            obtain ⟨s2, rfl, hs2, hcu, hc⟩ := hrel
            have HCL := Lib.hid hc
            clear hc HC8 cu8
            go_wp2_with fail
            refine (C_pick B _ 6 wr hcu (by omega) (by omega) (by omega)).mono ?_; rintro e w9 ⟨r, rfl, ⟨hr0, hr1⟩, cu9, hb9⟩
            have HC9 := Lib.hid (HCL.out.trans (Chg.of_grown hb9))
            clear hb9 hcu
            by_cases hlt9 : (s2.size : Int) < 56 + r
            · go_wp2
              go_roundw
              case rel => exact ⟨_, rfl, by (try simp only [ByteArray.size_append, mk1, mk2, mk3]); omega, cu9.mono (by (try simp only [ByteArray.size_append, mk1, mk2, mk3]); omega), HC9.out⟩
              case measure => simp only [szV]; (try simp only [ByteArray.size_append, mk1, mk2, mk3]); omega
            · go_wp2
              go_ret
              exact ⟨s2, rfl, by omega, cu9.mono (by omega), HC9.out⟩
        · have e0 : (q == 0) = false := by rw [beq_eq_false_iff_ne]; omega
          have e1 : (q == 1) = false := by rw [beq_eq_false_iff_ne]; omega
          go_wp2
          go_ret
          exact ⟨_, rfl, by (try simp only [ByteArray.size_append, mk1, mk2, mk3]); omega, cu8.mono (by omega), HC8.out⟩
      · go_wp2_with fail
        refine (C_queryTest B _ w5 cu5 (by omega)).mono ?_; rintro e w6 ⟨s6, rfl, hs6, cu6, hc6⟩
        have HC6 := Lib.hid (HC5.out.trans hc6)
        clear hc6 cu5
        go_wp2_with fail
        refine (C_pick B _ 24 w6 cu6 (by omega) (by omega) (by omega)).mono ?_; rintro e w8 ⟨q, rfl, ⟨hq0, hq1⟩, cu8, hb8⟩
        have HC8 := Lib.hid (HC6.out.trans (Chg.of_grown hb8))
        clear hb8
        have hway : q = 0 ∨ q = 1 ∨ 2 ≤ q := by omega
        rcases hway with rfl | rfl | hq2
        · go_wp2_with fail
          refine (C_spoilt B _ _ _ w8 cu8 (by omega) (by (try simp only [ByteArray.size_append, mk1, mk2, mk3]); omega) (by decide) (by decide)).mono ?_; rintro e w9 ⟨x9, rfl, hx9, cu9, hc9⟩
          have HC9 := Lib.hid (HC8.out.trans hc9)
          have HX9 := Lib.hid (show x9.size ≤ 64 by revert hx9; (try simp only [ByteArray.size_append, mk1, mk2, mk3]); omega)
          clear hc9 hx9
          go_wp2
          go_ret
          exact ⟨x9, rfl, HX9.out, cu9.mono (by omega), HC9.out⟩
        · go_wp2
          go_loopw [3] (fun v wr => ∃ s : ByteArray, v = .string s ∧ s.size ≤ 63 ∧ Cu wr B (m + 20 + s.size) ∧ Chg B (B + 1) w wr) (fun v _ => 64 - szV v)
          case atStart => exact ⟨_, rfl, by (try simp only [ByteArray.size_append, mk1, mk2, mk3]); omega, cu8.mono (by omega), HC8.out⟩
          case round =>
            obtain ⟨s2, rfl, hs2, hcu, hc⟩ := hrel
            have HCL := Lib.hid hc
            clear hc HC8 cu8
            go_wp2_with fail
            refine (C_pick B _ 6 wr hcu (by omega) (by omega) (by omega)).mono ?_; rintro e w9 ⟨r, rfl, ⟨hr0, hr1⟩, cu9, hb9⟩
            have HC9 := Lib.hid (HCL.out.trans (Chg.of_grown hb9))
            clear hb9 hcu
            by_cases hlt9 : (s2.size : Int) < 56 + r
            · go_wp2
              go_roundw
              case rel => exact ⟨_, rfl, by (try simp only [ByteArray.size_append, mk1, mk2, mk3]); omega, cu9.mono (by (try simp only [ByteArray.size_append, mk1, mk2, mk3]); omega), HC9.out⟩
              case measure => simp only [szV]; (try simp only [ByteArray.size_append, mk1, mk2, mk3]); omega
            · go_wp2
              go_ret
              exact ⟨s2, rfl, by omega, cu9.mono (by omega), HC9.out⟩
        · have e0 : (q == 0) = false := by rw [beq_eq_false_iff_ne]; omega
          have e1 : (q == 1) = false := by rw [beq_eq_false_iff_ne]; omega
          go_wp2
          go_ret
          exact ⟨_, rfl, by (try simp only [ByteArray.size_append, mk1, mk2, mk3]); omega, cu8.mono (by omega), HC8.out⟩
set_option maxRecDepth 100000 in
set_option maxHeartbeats 4000000 in
theorem C_DrawIsQuery (v : Value) (n : Nat) (w : World) (h : SU w v n) :
    Calls Tryz.prog 20 #[v] w fun e w' => ∃ s : ByteArray, e = .returned (.string s) ∧ s.size ≤ 64 ∧ Below w.heap.size w w' := by
  obtain ⟨A, cap, rfl⟩ := h.form
  have b1 : Below w.heap.size w (w.alloc (.cells #[.slice A n cap, .int .i64 0, .int .u64 0] 55)) := (Below.refl _ _).alloc (Nat.le_refl _) _
  have cu0 := Cu.start h 55
  obtain ⟨w1, hw1⟩ : ∃ w1, w1 = w.alloc (.cells #[.slice A n cap, .int .i64 0, .int .u64 0] 55) := ⟨_, rfl⟩
  rw [← hw1] at b1 cu0
  have HW := Lib.hid hw1.symm
  have B1 := Lib.hid b1
  clear hw1 b1 h
  go_enter Tryz.func20, Tryz.ntmps20
  go_upto_region 2 with fail
  rw [HW.out]
  go_wp2_with fail
  refine (C_query w.heap.size 0 w1 cu0 (by omega)).mono ?_; rintro e w2 ⟨s2, rfl, hs2, cu2, hc2⟩
  have HC2 := Lib.hid hc2
  clear hc2 cu0
  go_wp2_with fail
  refine (C_one w.heap.size _ 4 w2 cu2 (by omega) (by omega) (by omega)).mono ?_; rintro e w3 ⟨b, rfl, cu3, hb3⟩
  have HC3 := Lib.hid (HC2.out.trans (Chg.of_grown hb3))
  clear hb3 cu2
  cases b
  · go_wp2
    go_ret
    exact ⟨s2, rfl, hs2, bel_chg HC3.out (Nat.le_refl _) B1.out⟩
  · go_wp2_with fail
    refine (C_ofL w.heap.size _ _ 15 15 _ w3 _ (by rfl) cu3 (by omega) (by omega) (by decide) (by omega) sh4 (by decide)).mono ?_; rintro e w4 ⟨x, rfl, hx, cu4, hb4⟩
    have HX := Lib.hid (sh4_le hx)
    have HC4 := Lib.hid (HC3.out.trans (Chg.of_grown hb4))
    clear hx hb4 cu3
    go_wp2
    go_ret
    exact ⟨x, rfl, by have := HX.out; omega, bel_chg HC4.out (Nat.le_refl _) B1.out⟩
theorem C_DrawNegatedQuery (v : Value) (n : Nat) (w : World) (h : SU w v n) :
    Calls Tryz.prog 16 #[v] w fun e w' => ∃ s : ByteArray, e = .returned (.string s) ∧ s.size ≤ 64 ∧ Below w.heap.size w w' := by
  go_enter Tryz.func16, Tryz.ntmps16
  go_wp2_with fail
  refine (C_DrawIsQuery v n w h).mono ?_; rintro e w2 ⟨s2, rfl, hs2, hb2⟩
  go_wp2
  go_ret
  exact ⟨s2, rfl, hs2, hb2⟩
theorem C_DrawSeriesNamed (v : Value) (n : Nat) (w : World) (h : SU w v n) :
    Calls Tryz.prog 28 #[v] w fun e w' => ∃ s : ByteArray, e = .returned (.string s) ∧ s.size ≤ 64 ∧ Below w.heap.size w w' := by
  go_enter Tryz.func28, Tryz.ntmps28
  go_wp2_with fail
  refine (C_DrawIsQuery v n w h).mono ?_; rintro e w2 ⟨s2, rfl, hs2, hb2⟩
  go_wp2
  go_ret
  exact ⟨s2, rfl, hs2, hb2⟩
set_option maxRecDepth 100000 in
set_option maxHeartbeats 4000000 in
theorem C_DrawBothQueries (v : Value) (n : Nat) (w : World) (h : SU w v n) :
    Calls Tryz.prog 12 #[v] w fun e w' => ∃ s t : ByteArray, e = .returned (.tuple #[.string s, .string t]) ∧ s.size ≤ 64 ∧ t.size ≤ 64 ∧ Below w.heap.size w w' := by
  obtain ⟨A, cap, rfl⟩ := h.form
  have b1 : Below w.heap.size w (w.alloc (.cells #[.slice A n cap, .int .i64 0, .int .u64 0] 55)) := (Below.refl _ _).alloc (Nat.le_refl _) _
  have cu0 := Cu.start h 55
  obtain ⟨w1, hw1⟩ : ∃ w1, w1 = w.alloc (.cells #[.slice A n cap, .int .i64 0, .int .u64 0] 55) := ⟨_, rfl⟩
  rw [← hw1] at b1 cu0
  have HW := Lib.hid hw1.symm
  have B1 := Lib.hid b1
  clear hw1 b1 h
  go_enter Tryz.func12, Tryz.ntmps12
  go_upto_region 2 with fail
  rw [HW.out]
  go_wp2_with fail
  refine (C_query w.heap.size 0 w1 cu0 (by omega)).mono ?_; rintro e w2 ⟨s2, rfl, hs2, cu2, hc2⟩
  have HC2 := Lib.hid hc2
  have HS2 := Lib.hid hs2
  clear hc2 cu0 hs2
  go_wp2_with fail
  refine (C_query w.heap.size _ w2 cu2 (by omega)).mono ?_; rintro e w3 ⟨s3, rfl, hs3, cu3, hc3⟩
  have HC3 := Lib.hid (HC2.out.trans hc3)
  have HS3 := Lib.hid hs3
  clear hc3 cu2 hs3
  go_wp2
  go_ret2
  exact ⟨s2, s3, rfl, HS2.out, HS3.out, bel_chg HC3.out (Nat.le_refl _) B1.out⟩
end Go.Proofs.YtjmfkenhnfdbjaaGreatDoor

/- Records that are drawn: words. No condition but those stated. -/
namespace Go.Proofs.YtjmfkenhnfdbjaaGreatDoor
set_option linter.unusedVariables false
set_option linter.unusedSimpArgs false
open Go.RowKit Go.Sort
attribute [local go_sem ↓] Go.wp_at_zero Go.wp_at_succ
theorem C_amongD (B m : Nat) (cs : Array Value) (n cap g : Nat) (w : World) (T : TypeId) (hg : w.heap.size = g) (h : Cu w B m) (hm : m ≤ 1099511627776) (h1 : 1 ≤ n) (hn : n ≤ cs.size) (h2 : n ≤ 200)
    (p : Int → Bool) (hall : cs.toList.all (fun v => isI v && p (unI v)) = true) :
    Calls Tryz.prog 35 #[.pointer (some ⟨B, 0, none⟩), .slice (some ⟨g, 0, none⟩) n cap] (w.alloc (.cells cs T)).drew fun e w' => ∃ x : Int, e = .returned (.int .i64 x) ∧ p x = true ∧ Cu w' B (m + 1) ∧ w.grownBy w' (some B) := by
  subst hg
  have hl := h.lt
  refine (C_amongR B m cs n cap w.heap.size (w.alloc (.cells cs T)).drew T (show (w.alloc (.cells cs T)).drew.rowIs w.heap.size T cs.size (fun j => cs.getD j undef) from row_lit w cs T) (by omega) (h.alloc _).drew hm h1 hn h2 p hall).mono ?_
  rintro e w' ⟨x, rfl, hp, hc, hb⟩
  exact ⟨x, rfl, hp, hc, ((Chg.of_below (lo := B) (hi := B + 1) ((Below.refl _ _).alloc (Nat.le_refl _) _)).drew.trans (Chg.of_grown hb)).grown⟩
def cells2 : List (Int × Int) → List Value
  | [] => []
  | x :: l => .int .i64 x.1 :: .int .i64 x.2 :: cells2 l
theorem cells2_length (l : List (Int × Int)) : (cells2 l).length = l.length * 2 := by
  induction l with
  | nil => rfl
  | cons x l ih => simp only [cells2, List.length_cons, ih]; omega
theorem cells2_append (l r : List (Int × Int)) : cells2 (l ++ r) = cells2 l ++ cells2 r := by
  induction l with
  | nil => rfl
  | cons x l ih => simp only [List.cons_append, cells2, ih]
theorem cells2_one (l : List (Int × Int)) : ∀ u ∈ cells2 l, u.oneCell' = true := by
  induction l with
  | nil => intro u h; cases h
  | cons x l ih =>
    intro u h
    simp only [cells2, List.mem_cons] at h
    rcases h with rfl | rfl | h
    · rfl
    · rfl
    · exact ih u h
def atE (l : List (Int × Int)) (j : Nat) : Int × Int := l.getD j (0, 0)
theorem cells2_at {l : List (Int × Int)} {j : Nat} (hj : j < l.length) : (cells2 l)[j * 2]? = some (.int .i64 (atE l j).1) ∧ (cells2 l)[j * 2 + 1]? = some (.int .i64 (atE l j).2) := by
  induction l generalizing j with
  | nil => simp at hj
  | cons x l ih =>
    cases j with
    | zero => exact ⟨rfl, rfl⟩
    | succ j =>
      rw [show (j + 1) * 2 = j * 2 + 1 + 1 by omega]
      simp only [cells2, List.getElem?_cons_succ]
      exact ih (by simpa using hj)
/-- The value v is a slice of the events l, in a row of the call's own. -/
def EL (base : Nat) (w : World) (v : Value) (l : List (Int × Int)) : Prop := w.ownsRow base 70 2 v l.length (cells2 l)
theorem EL.ofB {base : Nat} {w w' : World} {v : Value} {l : List (Int × Int)} (h : EL base w v l) (hb : ∀ g, v.ownBlock = some g → w'.heap[g]? = w.heap[g]?) : EL base w' v l := own_of_block h hb
theorem EL.lt {base : Nat} {w : World} {v : Value} {l : List (Int × Int)} (h : EL base w v l) : ∀ k, v.ownBlock = some k → base ≤ k ∧ k < w.heap.size := World.ownsRow.lt h
theorem EL.below {base : Nat} {w w' : World} {v : Value} {l : List (Int × Int)} (hb : Below w.heap.size w w') (h : EL base w v l) : EL base w' v l := h.ofB fun g hg => hb.block g (h.lt g hg).2
theorem EL.alloc {base : Nat} {w : World} {v : Value} {l : List (Int × Int)} (o : Obj) (h : EL base w v l) : EL base (w.alloc o) v l := h.below ((Below.refl _ _).alloc (Nat.le_refl _) _)
theorem EL.chg {base lo hi : Nat} {w w' : World} {v : Value} {l : List (Int × Int)} (hc : Chg lo hi w w') (hl : hi ≤ base) (h : EL base w v l) : EL base w' v l :=
  h.ofB fun g hg => hc.block g (h.lt g hg).2 (.inr (Nat.le_trans hl (h.lt g hg).1))
theorem EL.set {base : Nat} {w : World} {v : Value} {l : List (Int × Int)} {b i : Nat} (h : EL base w v l) (hn : v.ownBlock ≠ some b) (u : Value) : EL base (w.setCell ⟨b, i, none⟩ u) v l :=
  h.ofB fun g hg => Below.heap_setCell _ _ _ _ (fun e => hn (by rw [hg]; exact congrArg some e))
theorem EL.mono {base base' : Nat} {w : World} {v : Value} {l : List (Int × Int)} (hb : base' ≤ base) (h : EL base w v l) : EL base' w v l := by
  refine ⟨h.1, ?_⟩
  rcases h.2 with h0 | ⟨g, cap, cur, e, h1, h2⟩
  · exact .inl h0
  · exact .inr ⟨g, cap, cur, e, Nat.le_trans hb h1, h2⟩
theorem EL.form {base : Nat} {w : World} {v : Value} {l : List (Int × Int)} (h : EL base w v l) : ∃ A cap, v = .slice A l.length cap := by
  rcases h.2 with ⟨rfl, h0⟩ | ⟨g, cap, cur, rfl, _⟩
  · exact ⟨none, 0, by rw [h0]⟩
  · exact ⟨_, cap, rfl⟩
theorem EL.empty {base : Nat} {w : World} (hb : base ≤ w.heap.size) : EL base (w.alloc (.cells #[] 70)) (.slice (some ⟨w.heap.size, 0, none⟩) 0 0) [] :=
  World.ownsRow_made w #[] 0 hb (by decide) rfl
/-- A record as drawn. -/
structure Rd where
  id : Int
  ser : Int
  made : Int
  es : List (Int × Int)
def Rd.rc (x : Rd) : Rc := ⟨x.id, x.ser, x.made, x.es.length, fun j => (atE x.es j).1, fun j => (atE x.es j).2⟩
theorem EL.evs {base : Nat} {w : World} {v : Value} {x : Rd} (h : EL base w v x.es) : EvS w v x.rc := by
  have h' := h
  rcases h.2 with ⟨rfl, h0⟩ | ⟨g, cap, cur, rfl, hb, hh, hn, hm, _⟩
  · exact ⟨none, 0, by show _ = Value.slice none x.es.length 0; rw [h0], fun h => absurd h (by show ¬ 0 < x.es.length; omega), by show x.es.length ≤ 0; omega, by omega⟩
  · refine ⟨_, cap, rfl, fun _ => ⟨g, 0, rfl, (Array.getElem?_eq_some_iff.1 hh).1, fun j hj => ?_⟩, hn, by unfold maxLen at hm; exact hm⟩
    have hj : j < x.es.length := hj
    obtain ⟨e0, e1⟩ := cells2_at hj
    rw [Nat.zero_add]
    exact ⟨(World.ownsRow.cellAt h' (j * 2) (by omega)).trans e0, (World.ownsRow.cellAt h' (j * 2 + 1) (by omega)).trans e1⟩
theorem info_evt : (Tryz.prog.info? 70).map (fun i => (i.zero, i.size, i.bytes)) = some (some (.agg #[.int .i64 0, .int .i64 0]), 2, 16) := by kernel_rfl
theorem e_reads {w : World} {g : Nat} {x : Int × Int} (hl : g < w.heap.size) (h0 : w.cell? ⟨g, 0, none⟩ = some (.int .i64 x.1)) (h1 : w.cell? ⟨g, 1, none⟩ = some (.int .i64 x.2)) : Reads w w.heap.size 2 (some ⟨g, 0, none⟩) 1 (cells2 [x]) :=
  ⟨rfl, fun _ => ⟨⟨g, 0, none⟩, rfl, hl, fun i u hu => by
    match i, hu with
    | 0, hu => simp [cells2] at hu; subst hu; exact h0
    | 1, hu => simp [cells2] at hu; subst hu; exact h1
    | i + 2, hu => simp [cells2] at hu⟩⟩
/-- One event appended, at a step of a region that draws its order. -/
theorem step_appE (w : World) {ops : Array Oper} {o : Oper} {a : Act} {K : Act → World → Prop} {Q : Exit → Act → World → Prop} {E : Prop} (hgd : o.guard = none) (s x : Operand)
    (ho : o.op = .call { callee := .builtin .append, args := #[s, x], argTypes := #[24, 24] })
    (base : Nat) (v : Value) (l : List (Int × Int)) (hs : a.eval s = v) (hown : EL base w v l) (hbase : base ≤ w.heap.size) (g : Nat) (y : Int × Int) (hx : a.eval x = .slice (some ⟨g, 0, none⟩) 1 1) (hl : g < w.heap.size)
    (h0 : w.cell? ⟨g, 0, none⟩ = some (.int .i64 y.1)) (h1 : w.cell? ⟨g, 1, none⟩ = some (.int .i64 y.2))
    (hlen : l.length + 1 ≤ 1099511627776)
    (h : ∀ v' w', EL base w' v' (l ++ [y]) → w.grownBy w' v.ownBlock → (v'.ownBlock = v.ownBlock ∨ v'.ownBlock = some w.heap.size) → K (a.put o.dst v') w') : if Region.wanted o (yielded ops a.tmps) = true then Oper.wp Tryz.prog o a w K Q else E := by
  obtain ⟨i0, hi, hz0, hz1, hz2⟩ := info_parts info_evt
  refine step_append_any w hgd s x 24 ho base 70 i0 _ 2 16 Tryz.underlying24 hi hz0 hz1 hz2 rfl (by omega) v l.length (cells2 l) hs hown w.heap.size (some ⟨g, 0, none⟩) 1 1 (cells2 [y]) hx (e_reads hl h0 h1)
    (cells2_one [y]) (by unfold maxLen; omega) (by omega) hbase (fun v' w' k1 k2 k3 => h v' w' ?_ k2 k3)
  unfold EL
  rw [List.length_append, cells2_append]; exact k1
/-- The four cells of a record. -/
def c4v (id ser made : Int) (v : Value) (m : Nat) : Value := if m = 0 then .int .i64 id else if m = 1 then .int .i64 ser else if m = 2 then .int .i64 made else v
theorem row4_alloc (w : World) (t : TypeId) (id ser made : Int) (v : Value) : (w.alloc (.cells #[.int .i64 id, .int .i64 ser, .int .i64 made, v] t)).rowIs w.heap.size t 4 (c4v id ser made v) :=
  World.rowIs_alloc w #[.int .i64 id, .int .i64 ser, .int .i64 made, v] t (c4v id ser made v) (fun i hi => by
    match i, hi with
    | 0, _ => rfl
    | 1, _ => rfl
    | 2, _ => rfl
    | 3, _ => rfl
    | n + 4, h => exact absurd h (by simp))
/-- What the drawing of a record keeps. -/
structure RB (B m g0 gx : Nat) (w W : World) (id ser made : Int) (v : Value) : Prop where
  cu : Cu W B m
  ch : Chg B (B + 1) w W
  r0 : W.rowIs g0 26 4 (c4v 0 0 0 (.slice none 0 0))
  rx : W.rowIs gx 26 4 (c4v id ser made v)
  hw : w.heap.size ≤ g0
  l0 : B < g0
  lx : g0 < gx
section
variable {B m m' g0 gx : Nat} {w W W' : World} {id ser made id' ser' made' : Int} {v v' u : Value}
theorem RB.step (h : RB B m g0 gx w W id ser made v) (hc : Chg B (B + 1) W W') (hcu : Cu W' B m') : RB B m' g0 gx w W' id ser made v :=
  ⟨hcu, h.ch.trans hc, row_chg h.r0 hc (.inr h.l0), row_chg h.rx hc (.inr (Nat.lt_trans h.l0 h.lx)), h.hw, h.l0, h.lx⟩
theorem RB.below (h : RB B m g0 gx w W id ser made v) (hb : Below W.heap.size W W') : RB B m g0 gx w W' id ser made v := h.step (Chg.of_below hb) (h.cu.below hb)
theorem RB.alloc (h : RB B m g0 gx w W id ser made v) (o : Obj) : RB B m g0 gx w (W.alloc o) id ser made v := h.below ((Below.refl _ _).alloc (Nat.le_refl _) o)
theorem RB.drew (h : RB B m g0 gx w W id ser made v) : RB B m g0 gx w W.drew id ser made v := h.step (Chg.refl _ _ _).drew h.cu.drew
theorem RB.mono (h : RB B m g0 gx w W id ser made v) (hm : m ≤ m') : RB B m' g0 gx w W id ser made v := ⟨h.cu.mono hm, h.ch, h.r0, h.rx, h.hw, h.l0, h.lx⟩
theorem RB.grow (h : RB B m g0 gx w W id ser made v) (hg : W.grownBy W' u.ownBlock) (hv : ∀ k, u.ownBlock = some k → g0 < k ∧ k ≠ gx) : RB B m g0 gx w W' id ser made v := by
  have h1 := h.l0
  have h2 := h.lx
  have h3 := h.hw
  have hc : Chg (g0 + 1) (max (g0 + 1) W.heap.size) W W' := ⟨hg.os, hg.tape, hg.output, hg.size, fun k hk hr => hg.block k hk (fun e => by have := (hv k e.symm).1; omega)⟩
  exact ⟨h.cu.chg hc (by omega), ⟨hc.os.trans h.ch.os, hc.tape.trans h.ch.tape, hc.output.trans h.ch.output, Nat.le_trans h.ch.size hc.size, fun k hk hr => (hc.block k (Nat.lt_of_lt_of_le hk h.ch.size) (.inl (by omega))).trans (h.ch.block k hk hr)⟩,
    row_chg h.r0 hc (.inl (by omega)), h.rx.of_block (hg.block gx h.rx.lt (fun e => (hv gx e.symm).2 rfl)), h3, h1, h2⟩
theorem c4v_set1 {y : Int} {i : Nat} (hi : i < 4) : (if i = 1 then Value.int .i64 y else c4v id ser made v i) = c4v id y made v i := by
  match i, hi with
  | 0, _ => rfl
  | 1, _ => rfl
  | 2, _ => rfl
  | 3, _ => rfl
theorem c4v_set2 {y : Int} {i : Nat} (hi : i < 4) : (if i = 2 then Value.int .i64 y else c4v id ser made v i) = c4v id ser y v i := by
  match i, hi with
  | 0, _ => rfl
  | 1, _ => rfl
  | 2, _ => rfl
  | 3, _ => rfl
theorem c4v_set3 {i : Nat} (hi : i < 4) : (if i = 3 then u else c4v id ser made v i) = c4v id ser made u i := by
  match i, hi with
  | 0, _ => rfl
  | 1, _ => rfl
  | 2, _ => rfl
  | 3, _ => rfl
theorem RB.set {i : Nat} (h : RB B m g0 gx w W id ser made v) (e : ∀ j, j < 4 → (if j = i then u else c4v id ser made v j) = c4v id' ser' made' v' j) :
    RB B m g0 gx w (W.setCell ⟨gx, i, none⟩ u) id' ser' made' v' := by
  have h1 := h.l0
  have h2 := h.lx
  have h3 := h.hw
  refine ⟨h.cu.setFar (p := ⟨gx, i, none⟩) (by simp; omega) _, h.ch.setNew (p := ⟨gx, i, none⟩) (by simp; omega) _, h.r0.setOther (a := ⟨gx, i, none⟩) (by simp; omega) _, ?_, h3, h1, h2⟩
  exact (h.rx.set i u).congr e
theorem RB.cells (h : RB B m g0 gx w W id ser made v) :
    W.cell? ⟨gx, 0, none⟩ = some (.int .i64 id) ∧ W.cell? ⟨gx, 1, none⟩ = some (.int .i64 ser) ∧ W.cell? ⟨gx, 2, none⟩ = some (.int .i64 made) ∧ W.cell? ⟨gx, 3, none⟩ = some v ∧ W.frozen? ⟨gx, 0, none⟩ = false ∧ W.frozen? ⟨gx, 1, none⟩ = false ∧ W.frozen? ⟨gx, 2, none⟩ = false ∧ W.frozen? ⟨gx, 3, none⟩ = false ∧
    W.cell? ⟨g0, 0, none⟩ = some (.int .i64 0) ∧ W.cell? ⟨g0, 1, none⟩ = some (.int .i64 0) ∧ W.cell? ⟨g0, 2, none⟩ = some (.int .i64 0) ∧ W.cell? ⟨g0, 3, none⟩ = some (.slice none 0 0) ∧ W.frozen? ⟨g0, 0, none⟩ = false ∧ W.frozen? ⟨g0, 1, none⟩ = false ∧ W.frozen? ⟨g0, 2, none⟩ = false ∧ W.frozen? ⟨g0, 3, none⟩ = false :=
  ⟨h.rx.cell (i := 0) (by omega), h.rx.cell (i := 1) (by omega), h.rx.cell (i := 2) (by omega), h.rx.cell (i := 3) (by omega), h.rx.frozen 0, h.rx.frozen 1, h.rx.frozen 2, h.rx.frozen 3, h.r0.cell (i := 0) (by omega), h.r0.cell (i := 1) (by omega), h.r0.cell (i := 2) (by omega), h.r0.cell (i := 3) (by omega), h.r0.frozen 0, h.r0.frozen 1, h.r0.frozen 2, h.r0.frozen 3⟩
end
theorem formE {base : Nat} {w : World} {v : Value} {l : List (Int × Int)} {y : Int × Int} (h : EL base w v (l ++ [y])) : ∃ A cap, v = .slice A (l.length + 1) cap := by
  obtain ⟨A, cap, e⟩ := h.form
  exact ⟨A, cap, by rw [e]; simp⟩
def sm5 (x : Int) : Bool := decide (-30000 ≤ x) && decide (x ≤ 30000)
theorem sm5_of {x : Int} (h : sm5 x = true) : -30000 ≤ x ∧ x ≤ 30000 := by simpa [sm5] using h
end Go.Proofs.YtjmfkenhnfdbjaaGreatDoor

/- One record that is drawn. No condition but those stated. -/
namespace Go.Proofs.YtjmfkenhnfdbjaaGreatDoor
set_option linter.unusedVariables false
set_option linter.unusedSimpArgs false
open Go.RowKit Go.Sort
attribute [local go_sem ↓] Go.wp_at_zero Go.wp_at_succ
theorem row_litD (w : World) (cs : Array Value) (T : TypeId) : (w.alloc (.cells cs T)).drew.rowIs w.heap.size T cs.size (fun j => cs.getD j undef) := row_lit w cs T
theorem EL.setLow {base : Nat} {w : World} {v : Value} {l : List (Int × Int)} (h : EL base w v l) {p : Addr} (hp : p.block < base) (u : Value) : EL base (w.setCell p u) v l :=
  h.ofB fun g hg => Below.heap_setCell _ _ _ _ (by have := (h.lt g hg).1; omega)
theorem own_ne_new {v v' : Value} {gx N : Nat} (h : v.ownBlock ≠ some gx) (ha : v'.ownBlock = v.ownBlock ∨ v'.ownBlock = some N) (hN : gx < N) : v'.ownBlock ≠ some gx := by
  intro hh
  rcases ha with e | e
  · exact h (e.symm.trans hh)
  · rw [e] at hh
    injection hh with hh
    omega
theorem row_litG {w : World} {g : Nat} (hg : w.heap.size = g) (cs : Array Value) (T : TypeId) : (w.alloc (.cells cs T)).rowIs g T cs.size (fun j => cs.getD j undef) := by subst hg; exact row_lit w cs T
theorem row_drew {w : World} {g n : Nat} {T : TypeId} {F : Nat → Value} (h : w.rowIs g T n F) : w.drew.rowIs g T n F := h
theorem EL.drew {base : Nat} {w : World} {v : Value} {l : List (Int × Int)} (h : EL base w v l) : EL base w.drew v l := h
/-- The last field's cell. -/
def KS (gx : Nat) (v : Value) (W : World) : Prop := gx < W.heap.size ∧ W.cell? ⟨gx, 3, none⟩ = some v ∧ W.frozen? ⟨gx, 3, none⟩ = false
theorem KS.alloc {gx : Nat} {v : Value} {W : World} (h : KS gx v W) (o : Obj) : KS gx v (W.alloc o) :=
  ⟨by have := h.1; simp; omega, cell_old o h.1 h.2.1, (((Below.refl _ _).alloc (Nat.le_refl _) o).frozen (p := ⟨gx, 3, none⟩) h.1).trans h.2.2⟩
theorem KS.drew {gx : Nat} {v : Value} {W : World} (h : KS gx v W) : KS gx v W.drew := h
theorem RB.ks {B m g0 gx : Nat} {w W : World} {id ser made : Int} {v : Value} (h : RB B m g0 gx w W id ser made v) : KS gx v W := ⟨h.rx.lt, h.rx.cell (i := 3) (by omega), h.rx.frozen 3⟩
set_option maxRecDepth 100000 in
set_option maxHeartbeats 64000000 in
theorem C_record (B m : Nat) (r : Int) (w : World) (hcu : Cu w B m) (hm : m ≤ 800000) :
    Calls Tryz.prog 34 #[.pointer (some ⟨B, 0, none⟩), .int .i64 r] w fun e w' => ∃ (x : Rd) (v : Value), e = .returned (.agg #[.int .i64 x.id, .int .i64 x.ser, .int .i64 x.made, v]) ∧ EL w.heap.size w' v x.es ∧ x.es.length ≤ 7 ∧ Cu w' B (m + 40) ∧ w.grownBy w' (some B) := by
  have hlt := hcu.lt
  obtain ⟨g0, hg0⟩ : ∃ g, g = w.heap.size := ⟨_, rfl⟩
  obtain ⟨w0, hw0⟩ : ∃ w0, w0 = w.alloc (.cells #[.int .i64 0, .int .i64 0, .int .i64 0, .slice none 0 0] 26) := ⟨_, rfl⟩
  have hbw : Below w.heap.size w w0 := by rw [hw0]; (repeat (first | with_reducible exact Below.refl _ _ | with_reducible exact below_regrown _ _ _ | with_reducible refine bel_step0 (by assumption) ?_ | with_reducible refine bel_alloc0 ?_ _ | with_reducible refine bel_regrown0 ?_ _ _ | with_reducible refine bel_regrown ?_ (by first | omega | (simp; done) | (simp; omega)) _ _ | with_reducible refine below_drewN ?_ _ | with_reducible refine Below.drew ?_ | with_reducible refine Below.alloc ?_ (by first | omega | (simp; done) | (simp; omega)) _ | with_reducible refine Below.setCell ?_ (by first | omega | (simp; done) | (simp; omega)) _ | with_reducible refine bel_step (by assumption) (by first | omega | (simp; done) | (simp; omega)) ?_ | with_reducible refine bel_grown (by assumption) (by first | omega | (simp; done) | (simp; omega)) (by first | omega | (simp; done) | (simp; omega)) ?_))
  have r00 : w0.rowIs g0 26 4 (c4v 0 0 0 (.slice none 0 0)) := by rw [hw0, hg0]; exact row4_alloc w _ 0 0 0 _
  have cu0 := hcu.below hbw
  have HW0 := Lib.hid hw0.symm
  have HZ0 := Lib.hid (show w0.heap.size = g0 + 1 by rw [hw0, hg0]; simp)
  have HG0 := Lib.hid hg0.symm
  have HX := Lib.hid (And.intro hbw (And.intro r00 cu0))
  have hBg : B < g0 := by omega
  have hg0w : w.heap.size ≤ g0 := by omega
  clear hw0 hbw r00 cu0 hcu hg0 hlt
  go_enter Tryz.func34, Tryz.ntmps34
  go_wp2_with fail
  rw [HW0.out, HG0.out]
  refine (C_amongLc B m _ 6 6 _ w0 _ HZ0.out HX.out.2.2 (by omega) (by omega) (by decide) (by omega) sm5 (by rfl)).mono ?_; rintro e w1 ⟨d, rfl, _, cu1, hb1⟩
  have hc1 := Chg.of_grown hb1
  have HC1 := Lib.hid hc1
  clear hb1
  go_wp2_with fail
  refine (C_amongLc B _ _ 5 5 _ w1 _ (by rfl) cu1 (by omega) (by omega) (by decide) (by omega) sm5 (by rfl)).mono ?_; rintro e w2 ⟨d2, rfl, hd2, cu2, hb2⟩
  have hc2 := HC1.out.trans (Chg.of_grown hb2)
  have HD2 := Lib.hid (sm5_of hd2)
  obtain ⟨ge, hge⟩ : ∃ g, g = w2.heap.size := ⟨_, rfl⟩
  obtain ⟨gx, hgx⟩ : ∃ g, g = w2.heap.size + 1 := ⟨_, rfl⟩
  obtain ⟨w3, hw3⟩ : ∃ w3, w3 = (w2.alloc (.cells #[] 70)).alloc (.cells #[.int .i64 r, .int .i64 d, .int .i64 d2, .slice (some ⟨ge, 0, none⟩) 0 0] 26) := ⟨_, rfl⟩
  have z2 := hc2.size
  have z0 := HZ0.out
  have R3 : RB B (m + 2) g0 gx w w3 r d d2 (.slice (some ⟨ge, 0, none⟩) 0 0) := by
    rw [hw3]
    refine ⟨(cu2.alloc _).alloc _, (((Chg.of_below HX.out.1).trans hc2).alloc _).alloc _, row_alloc (row_alloc (row_chg HX.out.2.1 hc2 (.inr hBg)) _) _, ?_, hg0w, hBg, by omega⟩
    have := row4_alloc (w2.alloc (.cells #[] 70)) 26 r d d2 (.slice (some ⟨ge, 0, none⟩) 0 0)
    rw [World.size_alloc, ← hgx] at this
    exact this
  have O3 : EL (g0 + 1) w3 (.slice (some ⟨ge, 0, none⟩) 0 0) [] := by
    rw [hw3, hge]; exact (EL.empty (by omega)).alloc _
  have R3 := Lib.hid R3
  have O3 := Lib.hid O3
  have HNX : Hid ((Value.slice (some ⟨ge, 0, none⟩) 0 0).ownBlock ≠ some gx) := Lib.hid (by simp [Value.ownBlock]; omega)
  have HW3 := Lib.hid hw3.symm
  have HGX := Lib.hid (And.intro hge.symm hgx.symm)
  clear hw3 hgx hge hc1 hc2 hb2 cu1 cu2 HX HZ0 HG0 HW0 z2 z0 hd2
  go_upto_region 2 with fail
  rw [HGX.out.2, HGX.out.1, HW3.out]
  clear HW3 HGX
  go_wp2
  go_loopw [6] (fun i wr => ∃ (k : Nat) (v : Value) (es : List (Int × Int)), 1 ≤ k ∧ k ≤ 7 ∧ i = .int .i64 k ∧ es.length + 1 ≤ k ∧ EL (g0 + 1) wr v es ∧ v.ownBlock ≠ some gx ∧ RB B (m + 2 + 2 * k) g0 gx w wr r d d2 v) (fun i _ => 7 - (intOf i).toNat)
  case atStart => exact ⟨1, _, [], by omega, by omega, rfl, by simp, O3.out, HNX.out, R3.out.mono (by omega)⟩
  case round =>
    clear R3 O3 HNX
    obtain ⟨k, v, es, hk1, hk7, rfl, hes, ho, hnx, hR⟩ := hrel
    have HR := Lib.hid hR
    have HO := Lib.hid ho
    have HNX := Lib.hid hnx
    clear ho hR hnx
    by_cases hlt : k ≤ 6
    · have hlt2 : (k : Int) ≤ 6 := by omega
      have hk0 : (0 : Int) ≤ (k : Int) := by omega
      go_wp2_with fail
      refine (C_one B _ 3 wr HR.out.cu (by omega) (by omega) (by omega)).mono ?_; rintro e w4 ⟨b, rfl, cu4, hb4⟩
      have R4 := Lib.hid (HR.out.step (Chg.of_grown hb4) cu4)
      have O4 := Lib.hid (HO.out.chg (Chg.of_grown hb4) (by have := HR.out.l0; omega))
      clear cu4 hb4
      cases b
      · go_wp2
        go_roundw
        case rel => exact ⟨k + 1, v, es, by omega, by omega, by go_num, by omega, O4.out, HNX.out, R4.out.mono (by omega)⟩
        case measure => simp [intOf]; omega
      · clear HR HO
        have hR := R4.out
        obtain ⟨x0, x1, x2, x3, f0, f1, f2, f3, y0, y1, y2, y3, e0, e1, e2, e3⟩ := RB.cells hR; have hgn := RB.lx hR; have hgl := (RB.rx hR).lt; have hg0l := (RB.r0 hR).lt; have hgB := RB.l0 hR; have hne := Nat.ne_of_lt hgn; have hne' := hne.symm
        obtain ⟨VA, vc, hva⟩ := O4.out.form
        subst hva
        clear hR
        go_upto_region 6 with fail
        have hBx : B + 1 ≤ g0 + 1 := by omega
        have hd2 := HD2.out
        go_region_law (first | (go_simp; go_at_call 35; refine (C_amongD B _ _ 5 5 _ _ _ (by rfl) R4.out.cu (by omega) (by omega) (by decide) (by omega) sm5 (by rfl)).mono ?_; rintro e w5 ⟨y, rfl, hy, cu5, hb5⟩; have R5 := Lib.hid (show RB B _ g0 gx w w5 r d d2 _ from R4.out.step (Chg.of_grown hb5) cu5); have O5 := Lib.hid (EL.chg (Chg.of_grown hb5) hBx O4.out); obtain ⟨hy0, hy1⟩ := sm5_of hy; clear hb5 cu5; clear x0 x1 x2 x3 f0 f1 f2 f3 y0 y1 y2 y3 e0 e1 e2 e3 hgn hgl hg0l hgB hne hne'; have hR5 := R5.out; obtain ⟨x0, x1, x2, x3, f0, f1, f2, f3, y0, y1, y2, y3, e0, e1, e2, e3⟩ := RB.cells hR5; have hgn := RB.lx hR5; have hgl := (RB.rx hR5).lt; have hg0l := (RB.r0 hR5).lt; have hgB := RB.l0 hR5; have hne := Nat.ne_of_lt hgn; have hne' := hne.symm; clear hR5) | (refine step_appE _ (by rfl) (.tmp 23) (.tmp 32) (by rfl) (g0 + 1) _ es (by rfl) (EL.alloc _ (O5).out) (by simp; omega) (w5).heap.size ((k : Int), IntKind.i64.wrap (d2 + y)) (by rfl) (by simp) (cell_new _ _ _ _ _ rfl) (cell_new _ _ _ _ _ rfl) (by omega) ?_; intro v1 w6 ho1 hg1 ha1; have R6 := Lib.hid (RB.grow (RB.alloc (R5).out _) hg1 (fun q hq => ⟨(EL.lt (O5).out q hq).1, fun e => HNX.out (by rw [hq, e])⟩)); have O6 := Lib.hid ho1; have HN6 := Lib.hid (own_ne_new HNX.out ha1 (by simp; omega)); obtain ⟨VB, vb, rfl⟩ := formE ho1; clear ho1 hg1 ha1; clear x0 x1 x2 x3 f0 f1 f2 f3 y0 y1 y2 y3 e0 e1 e2 e3 hgn hgl hg0l hgB hne hne'; have hR6 := R6.out; obtain ⟨x0, x1, x2, x3, f0, f1, f2, f3, y0, y1, y2, y3, e0, e1, e2, e3⟩ := RB.cells hR6; have hgn := RB.lx hR6; have hgl := (RB.rx hR6).lt; have hg0l := (RB.r0 hR6).lt; have hgB := RB.l0 hR6; have hne := Nat.ne_of_lt hgn; have hne' := hne.symm; clear hR6))
        all_goals
          clear x0 x1 x2 x3 f0 f1 f2 f3 y0 y1 y2 y3 e0 e1 e2 e3 hgn hgl hg0l hgB hne hne'
          go_wp2
          go_roundw
          case rel => exact ⟨k + 1, _, es ++ [_], by omega, by omega, by go_num, by simp; omega, O6.out.set HN6.out _, HN6.out, (R6.out.set fun j hj => c4v_set3 hj).mono (by omega)⟩
          case measure => simp [intOf]; omega
    · obtain rfl : k = 7 := by omega
      have hz : ¬ ((7 : Nat) : Int) ≤ 6 := by omega
      have hes6 : es.length ≤ 6 := by omega
      obtain ⟨VA, vc, hva⟩ := HO.out.form
      subst hva
      have hl0 := HR.out.l0
      have hlx := HR.out.lx
      clear hes hk1 hk7
      go_wp2_with fail
      refine (C_pick B _ 48 _ HR.out.cu (by omega) (by omega) (by omega)).mono ?_; rintro e w7 ⟨q, rfl, ⟨hq0, hq1⟩, cu7, hb7⟩
      have R7 := Lib.hid (HR.out.step (Chg.of_grown hb7) cu7)
      have O7 := Lib.hid (HO.out.chg (Chg.of_grown hb7) (by omega))
      clear cu7 hb7 HR HO
      have hway : q = 0 ∨ q = 1 ∨ q = 2 ∨ 3 ≤ q := by omega
      go_upto_block 2 with fail
      go_cut [6] (fun s6 wx => s6 = .int .i64 ((7 : Nat) : Int) ∧ ∃ (ser' made' : Int) (es' : List (Int × Int)) (v' : Value), es'.length ≤ 7 ∧ EL (g0 + 1) wx v' es' ∧ v'.ownBlock ≠ some gx ∧ RB B (m + 19) g0 gx w wx r ser' made' v')
      case first =>
        as_aux_lemma =>
          rcases hway with rfl | rfl | rfl | hq3
          · go_wp2_with fail
            refine (C_amongLc B _ _ 2 2 _ w7 _ (by rfl) R7.out.cu (by omega) (by omega) (by decide) (by omega) sm5 (by rfl)).mono ?_; rintro e w8 ⟨y, rfl, _, cu8, hb8⟩
            have R8 := Lib.hid (R7.out.step (Chg.of_grown hb8) cu8)
            have O8 := Lib.hid (O7.out.chg (Chg.of_grown hb8) (by omega))
            clear cu8 hb8
            have hR := R8.out
            obtain ⟨x0, x1, x2, x3, f0, f1, f2, f3, y0, y1, y2, y3, e0, e1, e2, e3⟩ := RB.cells hR; have hgn := RB.lx hR; have hgl := (RB.rx hR).lt; have hg0l := (RB.r0 hR).lt; have hgB := RB.l0 hR; have hne := Nat.ne_of_lt hgn; have hne' := hne.symm
            clear hR
            go_wp2_with fail
            go_meet
            exact ⟨rfl, y, d2, es, _, by omega, O8.out.set HNX.out _, HNX.out, (R8.out.set fun j hj => c4v_set1 hj).mono (by omega)⟩
          · go_wp2_with fail
            refine (C_amongLc B _ _ 3 3 _ w7 _ (by rfl) R7.out.cu (by omega) (by omega) (by decide) (by omega) sm5 (by rfl)).mono ?_; rintro e w8 ⟨y, rfl, _, cu8, hb8⟩
            have R8 := Lib.hid (R7.out.step (Chg.of_grown hb8) cu8)
            have O8 := Lib.hid (O7.out.chg (Chg.of_grown hb8) (by omega))
            clear cu8 hb8
            have hR := R8.out
            obtain ⟨x0, x1, x2, x3, f0, f1, f2, f3, y0, y1, y2, y3, e0, e1, e2, e3⟩ := RB.cells hR; have hgn := RB.lx hR; have hgl := (RB.rx hR).lt; have hg0l := (RB.r0 hR).lt; have hgB := RB.l0 hR; have hne := Nat.ne_of_lt hgn; have hne' := hne.symm
            clear hR
            go_wp2_with fail
            go_meet
            exact ⟨rfl, d, y, es, _, by omega, O8.out.set HNX.out _, HNX.out, (R8.out.set fun j hj => c4v_set2 hj).mono (by omega)⟩
          · have R7 := Lib.hid (R7.out.mono (show _ ≤ m + 17 by omega))
            have S7 := R7.out.ks
            have hsz7 := S7.1
            have hB7 := R7.out.cu.lt
            have hBx : B + 1 ≤ g0 + 1 := by omega
            have x3 := S7.2.1
            have f3 := S7.2.2
            go_upto_region 13 with fail
            go_region_law (first | (go_simp; (go_at_call 35; (with_reducible show Calls _ _ #[_, Value.slice _ 3 3] _ _); refine Calls.mono (C_amongR B (m + 17) #[.int .i64 1, .int .i64 9, .int .i64 10] 3 _ _ _ 3 (by (repeat (first | with_reducible exact row_litG (by first | with_reducible rfl | (simp only [World.size_alloc, World.size_drew]; done)) _ _ | with_reducible refine row_drew ?_ | with_reducible refine row_alloc ?_ _ | (with_reducible refine row_chg ?_ (Chg.of_grown hb5) (.inr (by first | omega | (simp only [World.size_alloc, World.size_drew]; omega))))))) (by first | omega | (simp only [World.size_alloc, World.size_drew]; omega)) (by (repeat (first | with_reducible exact RB.cu (R7).out | with_reducible refine Cu.alloc ?_ _ | with_reducible refine Cu.drew ?_))) (by omega) (by omega) (by decide) (by omega) sm5 (by rfl)) ?_; rintro e w5 ⟨y, rfl, _, cu5, hb5⟩; have R5 := Lib.hid (show RB B (m + 17 + 1) g0 gx w w5 r d d2 (.slice VA es.length vc) from RB.step (m := m + 17) (v := .slice VA es.length vc) (by (repeat (first | with_reducible exact (R7).out | with_reducible refine RB.alloc ?_ _ | with_reducible refine RB.drew ?_))) (Chg.of_grown hb5) cu5); have O5 := Lib.hid (EL.chg (Chg.of_grown hb5) hBx (show EL (g0 + 1) _ (.slice VA es.length vc) es by (repeat (first | with_reducible exact (O7).out | with_reducible refine EL.alloc _ ?_ | with_reducible refine EL.drew ?_)))); have S5 := RB.ks (R5).out; have hsz5 := (S5).1; have hB5 := (cu5).lt); clear x3 f3; have x3 := S5.2.1; have f3 := S5.2.2) | (go_simp; (go_at_call 35; (with_reducible show Calls _ _ #[_, Value.slice _ 2 2] _ _); refine Calls.mono (C_amongR B (m + 17 + 1) #[.int .i64 0, .int .i64 20000] 2 _ _ _ 3 (by (repeat (first | with_reducible exact row_litG (by first | with_reducible rfl | (simp only [World.size_alloc, World.size_drew]; done)) _ _ | with_reducible refine row_drew ?_ | with_reducible refine row_alloc ?_ _ | (with_reducible refine row_chg ?_ (Chg.of_grown hb5) (.inr (by first | omega | (simp only [World.size_alloc, World.size_drew]; omega))))))) (by first | omega | (simp only [World.size_alloc, World.size_drew]; omega)) (by (repeat (first | with_reducible exact RB.cu (R5).out | with_reducible refine Cu.alloc ?_ _ | with_reducible refine Cu.drew ?_))) (by omega) (by omega) (by decide) (by omega) sm5 (by rfl)) ?_; rintro e w8 ⟨y8, rfl, _, cu8, hb8⟩; have R8 := Lib.hid (show RB B (m + 17 + 1 + 1) g0 gx w w8 r d d2 (.slice VA es.length vc) from RB.step (m := m + 17 + 1) (v := .slice VA es.length vc) (by (repeat (first | with_reducible exact (R5).out | with_reducible refine RB.alloc ?_ _ | with_reducible refine RB.drew ?_))) (Chg.of_grown hb8) cu8); have O8 := Lib.hid (EL.chg (Chg.of_grown hb8) hBx (show EL (g0 + 1) _ (.slice VA es.length vc) es by (repeat (first | with_reducible exact (O5).out | with_reducible refine EL.alloc _ ?_ | with_reducible refine EL.drew ?_)))); have S8 := RB.ks (R8).out; have hsz8 := (S8).1; have hB8 := (cu8).lt); clear x3 f3; have x3 := S8.2.1; have f3 := S8.2.2) | (refine step_appE _ (by rfl) (.tmp 52) (.tmp 60) (by rfl) (g0 + 1) (.slice VA es.length vc) es (by rfl) (by (repeat (first | with_reducible exact (O8).out | with_reducible refine EL.alloc _ ?_ | with_reducible refine EL.drew ?_))) (by first | omega | (simp only [World.size_alloc, World.size_drew]; omega)) w8.heap.size (y, y8) (by rfl) (by simp) (by first | exact cell_new _ _ _ _ _ rfl | (simp; done)) (by first | exact cell_new _ _ _ _ _ rfl | (simp; done)) (by omega) ?_; intro v1 w6 ho1 hg1 ha1; have R6 := Lib.hid (RB.grow (show RB B (m + 17 + 1 + 1) g0 gx w _ r d d2 (.slice VA es.length vc) by (repeat (first | with_reducible exact (R8).out | with_reducible refine RB.alloc ?_ _ | with_reducible refine RB.drew ?_))) hg1 (fun q hq => ⟨(EL.lt O8.out q hq).1, fun e => HNX.out (by rw [hq, e])⟩)); have O6 := Lib.hid ho1; have HN6 := Lib.hid (own_ne_new HNX.out ha1 (by first | omega | (simp only [World.size_alloc, World.size_drew]; omega))); obtain ⟨VB, vb, rfl⟩ := formE ho1; clear ho1 hg1 ha1; have S6 := RB.ks R6.out; have x3 := S6.2.1; have f3 := S6.2.2))
            all_goals
              go_wp2
              go_meet
              exact ⟨rfl, d, d2, es ++ [_], _, by simp; omega, O6.out.set HN6.out _, HN6.out, (RB.set R6.out fun j hj => c4v_set3 hj).mono (by omega)⟩
          · have e0 : (q == 0) = false := by rw [beq_eq_false_iff_ne]; omega
            have e1 : (q == 1) = false := by rw [beq_eq_false_iff_ne]; omega
            have e2 : (q == 2) = false := by rw [beq_eq_false_iff_ne]; omega
            go_wp2_with fail
            go_meet
            exact ⟨rfl, d, d2, es, _, by omega, O7.out, HNX.out, R7.out.mono (by omega)⟩
      case rest =>
        as_aux_lemma =>
          rename World => wx
          obtain ⟨rfl, ser', made', es', v', hes', ho', hn', hR'⟩ := hcut
          obtain ⟨VB, vb, hvb⟩ := ho'.form
          subst hvb
          have O6 := Lib.hid ho'
          have R6 := Lib.hid hR'
          clear ho' hR'
          have hR6 := R6.out
          obtain ⟨x0, x1, x2, x3, f0, f1, f2, f3, y0, y1, y2, y3, e0, e1, e2, e3⟩ := RB.cells hR6; have hgn := RB.lx hR6; have hgl := (RB.rx hR6).lt; have hg0l := (RB.r0 hR6).lt; have hgB := RB.l0 hR6; have hne := Nat.ne_of_lt hgn; have hne' := hne.symm
          clear hR6
          go_wp2_with fail
          (go_light; refine bodyPost_ret (by simp (maxDischargeDepth := 3) [results, Tryz.results34, go_sem, *]; try rfl) rfl ?_; refine ⟨⟨_, _, _, es'⟩, _, rfl, ?_, (show es'.length ≤ 7 by omega), ?_, ?_⟩; (next => (refine EL.mono (base := g0 + 1) (by omega) ?_; (repeat (with_reducible refine EL.setLow ?_ (by first | omega | (simp; done) | (simp; omega)) _)); exact O6.out)); (next => ((repeat (first | with_reducible refine Cu.alloc ?_ _ | with_reducible refine Cu.setFar ?_ (by first | omega | (simp; done) | (simp; omega)) _)); exact Cu.mono (RB.cu R6.out) (by omega))); (next => (refine Chg.grown ?_; (repeat (first | with_reducible refine Chg.alloc ?_ _ | with_reducible refine Chg.setNew ?_ (by first | omega | (simp; done) | (simp; omega)) _)); exact RB.ch R6.out)))
end Go.Proofs.YtjmfkenhnfdbjaaGreatDoor
