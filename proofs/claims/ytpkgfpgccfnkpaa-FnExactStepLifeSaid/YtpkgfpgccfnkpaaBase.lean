/- Plain lemmas of this claim: values, frames, ranges. No condition. -/
import Derived.Test.YtpkgfpgccfnkpaaRows
import Derived.WalkKit
import Derived.WalkSpells
import Derived.WalkLawsBesides
import Derived.Lib.Hide
import Derived.Deep.QuietTactic
import Derived.BigQuiet
import Derived.Deep.RegionWith
import Derived.Deep.Light
import Derived.Deep.LoopGhost
import Derived.Deep.DeepCutAuto
namespace Go.Proofs.Ytpkgfpgccfnkpaa
set_option linter.unusedVariables false
open Go.RowKit

theorem ret_bool {a b : Bool} (h : a = b) : Ending.returned (.bool a) = .returned (.bool b) := by rw [h]
theorem ret_int {k : IntKind} {a b : Int} (h : a = b) : Ending.returned (.int k a) = .returned (.int k b) := by rw [h]
theorem bcell {W w1 : World} (hb : Below W.heap.size W w1) : (∀ b o, b < W.heap.size → w1.cell? ⟨b, o, none⟩ = W.cell? ⟨b, o, none⟩) ∧ (∀ b o, b < W.heap.size → w1.frozen? ⟨b, o, none⟩ = W.frozen? ⟨b, o, none⟩) :=
  ⟨fun b o h => hb.cell (p := ⟨b, o, none⟩) h, fun b o h => hb.frozen (p := ⟨b, o, none⟩) h⟩
theorem bsize {W w1 : World} (hb : Below W.heap.size W w1) : W.heap.size ≤ w1.heap.size := hb.size
theorem bel_step {B : Nat} {a W w1 : World} (h : Below W.heap.size W w1) (hz : B ≤ W.heap.size) (h0 : Below B a W) : Below B a w1 := h0.trans (h.mono hz)

theorem sz1 {a b : Nat} (h : a + 1 ≤ b) : a < b := by omega
theorem sz2 {a b : Nat} (h : a + 1 + 1 ≤ b) : a < b ∧ a + 1 < b := by refine ⟨?_, ?_⟩ <;> omega
theorem sz3 {a b : Nat} (h : a + 1 + 1 + 1 ≤ b) : a < b ∧ a + 1 < b ∧ a + 1 + 1 < b := by refine ⟨?_, ?_, ?_⟩ <;> omega
theorem sz4 {a b : Nat} (h : a + 1 + 1 + 1 + 1 ≤ b) : a < b ∧ a + 1 < b ∧ a + 1 + 1 < b ∧ a + 1 + 1 + 1 < b := by refine ⟨?_, ?_, ?_, ?_⟩ <;> omega
theorem sz5 {a b : Nat} (h : a + 1 + 1 + 1 + 1 + 1 ≤ b) : a < b ∧ a + 1 < b ∧ a + 1 + 1 < b ∧ a + 1 + 1 + 1 < b ∧ a + 1 + 1 + 1 + 1 < b := by refine ⟨?_, ?_, ?_, ?_, ?_⟩ <;> omega
theorem sz6 {a b : Nat} (h : a + 1 + 1 + 1 + 1 + 1 + 1 ≤ b) : a < b ∧ a + 1 < b ∧ a + 1 + 1 < b ∧ a + 1 + 1 + 1 < b ∧ a + 1 + 1 + 1 + 1 < b ∧ a + 1 + 1 + 1 + 1 + 1 < b := by refine ⟨?_, ?_, ?_, ?_, ?_, ?_⟩ <;> omega
theorem sz7 {a b : Nat} (h : a + 1 + 1 + 1 + 1 + 1 + 1 + 1 ≤ b) : a < b ∧ a + 1 < b ∧ a + 1 + 1 < b ∧ a + 1 + 1 + 1 < b ∧ a + 1 + 1 + 1 + 1 < b ∧ a + 1 + 1 + 1 + 1 + 1 < b ∧ a + 1 + 1 + 1 + 1 + 1 + 1 < b := by refine ⟨?_, ?_, ?_, ?_, ?_, ?_, ?_⟩ <;> omega
theorem lt_le4 {a b : Nat} (h : a + 1 + 1 + 1 + 1 ≤ b) : ∀ n, n < a → n < b := fun n hn => by omega
theorem lt_le5 {a b : Nat} (h : a + 1 + 1 + 1 + 1 + 1 ≤ b) : ∀ n, n < a → n < b := fun n hn => by omega
theorem lt_le6 {a b : Nat} (h : a + 1 + 1 + 1 + 1 + 1 + 1 ≤ b) : ∀ n, n < a → n < b := fun n hn => by omega
theorem lt_le7 {a b : Nat} (h : a + 1 + 1 + 1 + 1 + 1 + 1 + 1 ≤ b) : ∀ n, n < a → n < b := fun n hn => by omega
theorem lt_le0 {a b : Nat} (h : a ≤ b) : ∀ n, n < a → n < b := fun n hn => by omega
theorem lt_le1 {a b : Nat} (h : a + 1 ≤ b) : ∀ n, n < a → n < b := fun n hn => by omega
theorem lt_le2 {a b : Nat} (h : a + 1 + 1 ≤ b) : ∀ n, n < a → n < b := fun n hn => by omega
theorem lt_le3 {a b : Nat} (h : a + 1 + 1 + 1 ≤ b) : ∀ n, n < a → n < b := fun n hn => by omega
@[simp] theorem lt1 (n : Nat) : n < n + 1 := by omega
@[simp] theorem lt2 (n : Nat) : n < n + 1 + 1 := by omega
@[simp] theorem lt3 (n : Nat) : n < n + 1 + 1 + 1 := by omega
@[simp] theorem lt4 (n : Nat) : n < n + 1 + 1 + 1 + 1 := by omega
@[simp] theorem lt12 (n : Nat) : n + 1 < n + 1 + 1 + 1 := by omega
@[simp] theorem lt13 (n : Nat) : n + 1 < n + 1 + 1 + 1 + 1 := by omega
@[simp] theorem lt22 (n : Nat) : n + 1 + 1 < n + 1 + 1 + 1 + 1 := by omega
@[simp] theorem nn01 (n : Nat) : (n = n + 1) = False := by simp only [eq_iff_iff, iff_false]; omega
@[simp] theorem nn02 (n : Nat) : (n = n + 1 + 1) = False := by simp only [eq_iff_iff, iff_false]; omega
@[simp] theorem nn03 (n : Nat) : (n = n + 1 + 1 + 1) = False := by simp only [eq_iff_iff, iff_false]; omega
@[simp] theorem nn10 (n : Nat) : (n + 1 = n) = False := by simp only [eq_iff_iff, iff_false]; omega
@[simp] theorem nn12 (n : Nat) : (n + 1 = n + 1 + 1) = False := by simp only [eq_iff_iff, iff_false]; omega
@[simp] theorem nn13 (n : Nat) : (n + 1 = n + 1 + 1 + 1) = False := by simp only [eq_iff_iff, iff_false]; omega
@[simp] theorem nn20 (n : Nat) : (n + 1 + 1 = n) = False := by simp only [eq_iff_iff, iff_false]; omega
@[simp] theorem nn21 (n : Nat) : (n + 1 + 1 = n + 1) = False := by simp only [eq_iff_iff, iff_false]; omega
@[simp] theorem nn23 (n : Nat) : (n + 1 + 1 = n + 1 + 1 + 1) = False := by simp only [eq_iff_iff, iff_false]; omega
@[simp] theorem nn30 (n : Nat) : (n + 1 + 1 + 1 = n) = False := by simp only [eq_iff_iff, iff_false]; omega
@[simp] theorem nn31 (n : Nat) : (n + 1 + 1 + 1 = n + 1) = False := by simp only [eq_iff_iff, iff_false]; omega
@[simp] theorem nn32 (n : Nat) : (n + 1 + 1 + 1 = n + 1 + 1) = False := by simp only [eq_iff_iff, iff_false]; omega
theorem only_drewN {a w : World} {row : Option Nat} (h : a.grownBy w row) (n : Nat) : a.grownBy (w.drewN n) row := ⟨h.os, h.tape, h.output, h.size, h.block⟩
theorem only_drew {a w : World} {row : Option Nat} (h : a.grownBy w row) : a.grownBy w.drew row := ⟨h.os, h.tape, h.output, h.size, h.block⟩
theorem only_alloc {a w : World} {row : Option Nat} (h : a.grownBy w row) (o : Obj) : a.grownBy (w.alloc o) row :=
  ⟨h.os, h.tape, h.output, Nat.le_trans h.size (by simp), fun i hi hne => (Below.heap_alloc w o i (Nat.lt_of_lt_of_le hi h.size)).trans (h.block i hi hne)⟩
theorem only_setCell {a w : World} {g : Nat} (h : a.grownBy w (some g)) {p : Addr} (hp : p.block = g ∨ a.heap.size ≤ p.block) (u : Value) : a.grownBy (w.setCell p u) (some g) :=
  ⟨h.os, h.tape, h.output, by simpa [World.setCell] using h.size, fun i hi hne => (Below.heap_setCell w p u i (by
    rintro rfl
    rcases hp with hp | hp
    · exact hne (by rw [hp])
    · omega)).trans (h.block i hi hne)⟩
theorem gcell {W w1 : World} {g : Nat} (h : W.grownBy w1 (some g)) : (∀ b o, b < W.heap.size → b ≠ g → w1.cell? ⟨b, o, none⟩ = W.cell? ⟨b, o, none⟩) ∧ (∀ b o, b < W.heap.size → b ≠ g → w1.frozen? ⟨b, o, none⟩ = W.frozen? ⟨b, o, none⟩) :=
  ⟨fun b o hb hn => World.cell?_of_block (w := W) (a := ⟨b, o, none⟩) (h.block b hb (fun e => hn (by injection e))), fun b o hb hn => World.frozen?_of_block (w := W) (a := ⟨b, o, none⟩) (h.block b hb (fun e => hn (by injection e)))⟩
theorem gsize {W w1 : World} {g : Option Nat} (h : W.grownBy w1 g) : W.heap.size ≤ w1.heap.size := h.size
theorem bel_grown {B : Nat} {a W w1 : World} {g : Nat} (h : W.grownBy w1 (some g)) (hg : B ≤ g) (hz : B ≤ W.heap.size) (h0 : Below B a W) : Below B a w1 := h0.grown h hz (fun k hk => by injection hk with hk; omega)
def I64 (n : Int) : Prop := -9223372036854775808 ≤ n ∧ n ≤ 9223372036854775807
theorem i64_of_wf {n : Int} (h : (Lit.int .i64 n).wf = true) : I64 n := by
  simp only [Lit.wf, IntKind.min, IntKind.max, IntKind.signed, IntKind.bits, Bool.and_eq_true, decide_eq_true_eq, if_true] at h
  unfold I64; omega
def within (n lo hi : Int) : Bool := decide (lo ≤ n) && decide (n ≤ hi)
theorem within_iff {a b c : Int} : within a b c = true ↔ b ≤ a ∧ a ≤ c := by simp [within]

theorem C_within (n lo hi : Int) (w : World) :
    Calls Try.prog 37 #[.int .i64 n, .int .i64 lo, .int .i64 hi] w fun e w' => e = .returned (.bool (within n lo hi)) ∧ w = w' := by
  go_enter Try.func37, Try.ntmps37
  go_wp2
  all_goals (go_ret; exact ⟨ret_bool (by simp [within]; try omega), rfl⟩)

theorem C_l1In (n lo hi : Int) (w : World) :
    Calls Try.prog 53 #[.int .i64 n, .int .i64 lo, .int .i64 hi] w fun e w' => e = .returned (.bool (within n lo hi)) ∧ w = w' := by
  go_enter Try.func53, Try.ntmps53
  go_wp2
  all_goals (go_ret; exact ⟨ret_bool (by simp [within]; try omega), rfl⟩)

theorem C_isDay (n : Int) (w : World) :
    Calls Try.prog 36 #[.int .i64 n] w fun e w' => e = .returned (.bool (within n 0 20000)) ∧ w = w' := by
  go_enter Try.func36, Try.ntmps36
  go_wp2_with (go_at_call 37; refine (C_within _ _ _ _).mono ?_; rintro e w' ⟨rfl, rfl⟩)
  go_ret
  exact ⟨rfl, rfl⟩

theorem C_l2Day (n : Int) (w : World) :
    Calls Try.prog 52 #[.int .i64 n] w fun e w' => e = .returned (.bool (within n 0 20000)) ∧ w = w' := by
  go_enter Try.func52, Try.ntmps52
  go_wp2_with (go_at_call 53; refine (C_l1In _ _ _ _).mono ?_; rintro e w' ⟨rfl, rfl⟩)
  go_ret
  exact ⟨rfl, rfl⟩

theorem C_isAct (n : Int) (w : World) :
    Calls Try.prog 38 #[.int .i64 n] w fun e w' => e = .returned (.bool (within n 1 3)) ∧ w = w' := by
  go_enter Try.func38, Try.ntmps38
  go_wp2_with (go_at_call 37; refine (C_within _ _ _ _).mono ?_; rintro e w' ⟨rfl, rfl⟩)
  go_ret
  exact ⟨rfl, rfl⟩


end Go.Proofs.Ytpkgfpgccfnkpaa
