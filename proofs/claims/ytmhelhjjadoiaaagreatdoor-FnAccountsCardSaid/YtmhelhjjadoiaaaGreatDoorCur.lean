/- The cursor that the draws read from. No condition but those stated. -/
import Derived.Test.YtmhelhjjadoiaaaGreatDoorMem
import Derived.Test.YtmhelhjjadoiaaaGreatDoorIntsE
import Derived.Lib.LazyBuf
namespace Go.Proofs.YtmhelhjjadoiaaaGreatDoor
set_option linter.unusedVariables false
set_option linter.unusedSimpArgs false
open Go.RowKit Go.Sort
/-- A cursor in block B: its three cells, and the bytes that it reads, which lie below B. -/
structure Cu (w : World) (B m : Nat) : Prop where
  lt : B < w.heap.size
  fz : ∀ i, w.frozen? ⟨B, i, none⟩ = false
  body : ∃ (A : Option Addr) (n cap : Nat) (f : Nat → Int) (a : Nat) (s : Int), w.cell? ⟨B, 0, none⟩ = some (.slice A n cap) ∧ w.cell? ⟨B, 1, none⟩ = some (.int .i64 a) ∧ w.cell? ⟨B, 2, none⟩ = some (.int .u64 s) ∧ a ≤ m ∧ n ≤ 9223372036854775807 ∧
    (∀ j, 0 ≤ f j ∧ f j ≤ 255) ∧ (0 < n → ∃ b off, A = some ⟨b, off, none⟩ ∧ b < B ∧ ∀ j, j < n → w.cell? ⟨b, off + j, none⟩ = some (.int .u8 (f j)))
theorem Cu.mono {w : World} {B m m' : Nat} (h : Cu w B m) (hm : m ≤ m') : Cu w B m' := by
  obtain ⟨h1, h2, A, n, cap, f, a, s, c0, c1, c2, ha, r⟩ := h
  exact ⟨h1, h2, A, n, cap, f, a, s, c0, c1, c2, Nat.le_trans ha hm, r⟩
theorem Cu.chg {w w' : World} {B m lo hi : Nat} (hc : Chg lo hi w w') (hl : B < lo) (h : Cu w B m) : Cu w' B m := by
  obtain ⟨h1, h2, A, n, cap, f, a, s, c0, c1, c2, ha, hn, hf, hr⟩ := h
  have hB := hc.block B h1 (.inl hl)
  refine ⟨Nat.lt_of_lt_of_le h1 hc.size, fun i => (World.frozen?_of_block (w := w) (a := ⟨B, i, none⟩) hB).trans (h2 i), A, n, cap, f, a, s, (World.cell?_of_block (w := w) (a := ⟨B, 0, none⟩) hB).trans c0, (World.cell?_of_block (w := w) (a := ⟨B, 1, none⟩) hB).trans c1, (World.cell?_of_block (w := w) (a := ⟨B, 2, none⟩) hB).trans c2, ha, hn, hf, fun h0 => ?_⟩
  obtain ⟨b, off, e, hb, hcell⟩ := hr h0
  exact ⟨b, off, e, hb, fun j hj => (World.cell?_of_block (w := w) (a := ⟨b, off + j, none⟩) (hc.block b (by omega) (.inl (by omega)))).trans (hcell j hj)⟩
theorem Cu.below {w w' : World} {B m : Nat} (hb : Below w.heap.size w w') (h : Cu w B m) : Cu w' B m :=
  h.chg (lo := B + 1) (hi := B + 1) (Chg.of_below hb) (by omega)
theorem Cu.drew {w : World} {B m : Nat} (h : Cu w B m) : Cu w.drew B m := ⟨h.1, h.2, h.3⟩
theorem Cu.step {w : World} {B m : Nat} {A : Option Addr} {n cap a : Nat} {f : Nat → Int} {s : Int} (s' : Int) (h1 : B < w.heap.size) (h2 : ∀ i, w.frozen? ⟨B, i, none⟩ = false)
    (c0 : w.cell? ⟨B, 0, none⟩ = some (.slice A n cap)) (c1 : w.cell? ⟨B, 1, none⟩ = some (.int .i64 a)) (c2 : w.cell? ⟨B, 2, none⟩ = some (.int .u64 s)) (ha : a ≤ m) (hn : n ≤ 9223372036854775807)
    (hf : ∀ j, 0 ≤ f j ∧ f j ≤ 255) (hr : 0 < n → ∃ b off, A = some ⟨b, off, none⟩ ∧ b < B ∧ ∀ j, j < n → w.cell? ⟨b, off + j, none⟩ = some (.int .u8 (f j))) :
    Cu ((w.setCell ⟨B, 1, none⟩ (.int .i64 ((a : Int) + 1))).setCell ⟨B, 2, none⟩ (.int .u64 s')) B (m + 1) := by
  have d1 : (w.setCell ⟨B, 1, none⟩ (.int .i64 ((a : Int) + 1))).cell? ⟨B, 2, none⟩ = some (.int .u64 s) := by
    rw [World.cell?_setCell_other _ _ _ _ (by intro h; injection h with _ h _; omega)]; exact c2
  refine ⟨by simpa [World.setCell] using h1, fun i => by rw [World.frozen?_setCell, World.frozen?_setCell]; exact h2 i, A, n, cap, f, a + 1, s', ?_, ?_, ?_, by omega, hn, hf, fun h0 => ?_⟩
  · rw [World.cell?_setCell_other _ _ _ _ (by intro h; injection h with _ h _; omega), World.cell?_setCell_other _ _ _ _ (by intro h; injection h with _ h _; omega)]; exact c0
  · rw [World.cell?_setCell_other _ _ _ _ (by intro h; injection h with _ h _; omega), World.cell?_setCell_same _ _ _ c1]; rfl
  · rw [World.cell?_setCell_same _ _ _ d1]
  · obtain ⟨b, off, e, hb, hcell⟩ := hr h0
    refine ⟨b, off, e, hb, fun j hj => ?_⟩
    rw [World.cell?_setCell_other _ _ _ _ (by intro h; injection h with h _ _; omega), World.cell?_setCell_other _ _ _ _ (by intro h; injection h with h _ _; omega)]; exact hcell j hj
theorem chg_step (w : World) (B : Nat) (u v : Value) : Chg B (B + 1) w ((w.setCell ⟨B, 1, none⟩ u).setCell ⟨B, 2, none⟩ v) :=
  ((Chg.refl _ _ _).setCell (p := ⟨B, 1, none⟩) (Nat.le_refl _) (Nat.lt_succ_self _) u).setCell (p := ⟨B, 2, none⟩) (Nat.le_refl _) (Nat.lt_succ_self _) v
theorem Chg.drew {lo hi : Nat} {w w' : World} (h : Chg lo hi w w') : Chg lo hi w w'.drew := ⟨h.os, h.tape, h.output, h.size, h.block⟩
theorem and255 (x : Int) : 0 ≤ wrap64 (bits .and .u64 x 255) ∧ wrap64 (bits .and .u64 x 255) ≤ 255 := by
  have h : ∃ n : Nat, n ≤ 255 ∧ bits .and .u64 x 255 = (n : Int) := by
    refine ⟨(BitVec.ofInt 64 x &&& BitVec.ofInt 64 255).toNat, ?_, ?_⟩
    · rw [BitVec.toNat_and]; exact Nat.and_le_right
    · have hb : (BitVec.ofInt 64 x &&& BitVec.ofInt 64 255).toNat ≤ 255 := by rw [BitVec.toNat_and]; exact Nat.and_le_right
      show IntKind.u64.wrap (((BitVec.ofInt 64 x &&& BitVec.ofInt 64 255).toNat : Nat) : Int) = _
      generalize (BitVec.ofInt 64 x &&& BitVec.ofInt 64 255).toNat = n at hb ⊢
      simp only [IntKind.wrap, IntKind.bits, IntKind.signed]
      simp
      omega
  obtain ⟨n, hn, e⟩ := h
  rw [e]
  unfold wrap64
  omega
set_option maxHeartbeats 2000000 in
set_option maxRecDepth 10000 in
theorem C_next (B m : Nat) (w : World) (h : Cu w B m) (hm : m ≤ 1099511627776) :
    Calls Tryz.prog 83 #[.pointer (some ⟨B, 0, none⟩)] w fun e w' => ∃ x : Int, e = .returned (.int .i64 x) ∧ (0 ≤ x ∧ x ≤ 255) ∧ Cu w' B (m + 1) ∧ Chg B (B + 1) w w' := by
  obtain ⟨h1, h2, A, n, cap, f, a, s, c0, c1, c2, ha, hn, hf, hr⟩ := h
  have HR := Lib.hid hr
  have HF := Lib.hid hf
  clear hr hf
  by_cases hlt : a < n
  · obtain ⟨b, off, rfl, hb, hcell⟩ := HR.out (by omega)
    have hck := hcell a hlt
    obtain ⟨f0, f1⟩ := HF.out a
    have hlt' : (a : Int) < (n : Int) := by omega
    have hne : b ≠ B := by omega
    clear hcell
    go_enter Tryz.func83, Tryz.ntmps83
    go_wp2
    go_region
    go_wp2
    go_region
    go_wp2
    go_region
    go_wp2
    go_ret
    refine ⟨_, rfl, ⟨f0, f1⟩, ?_, ?_⟩
    · exact (Cu.step _ h1 h2 c0 c1 c2 ha hn HF.out HR.out).drew.drew.drew
    · exact (chg_step _ _ _ _).drew.drew.drew
  · have hlt' : ¬ (a : Int) < (n : Int) := by omega
    go_enter Tryz.func83, Tryz.ntmps83
    go_wp2
    go_region
    go_wp2
    go_region
    go_wp2
    go_ret
    refine ⟨_, rfl, and255 _, ?_, ?_⟩
    · exact (Cu.step _ h1 h2 c0 c1 c2 ha hn HF.out HR.out).drew.drew
    · exact (chg_step _ _ _ _).drew.drew
end Go.Proofs.YtmhelhjjadoiaaaGreatDoor
