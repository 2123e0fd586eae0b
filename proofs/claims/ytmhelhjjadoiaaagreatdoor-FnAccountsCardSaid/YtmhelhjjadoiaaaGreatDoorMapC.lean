/- Maps of counts that a call makes. No condition but those stated. -/
import Derived.Test.YtmhelhjjadoiaaaGreatDoorMem
import Derived.Maps.Own
import Derived.Maps.OwnOps
import Derived.Maps.Views
namespace Go.Proofs.YtmhelhjjadoiaaaGreatDoor
set_option linter.unusedVariables false
open Go.RowKit Go.WideMaps Go.Maps
/-- The block B holds a map of at most n counts, that reads at each key as c says. -/
def CM (K : TypeId) (w : World) (B n : Nat) (c : Lit → Int) : Prop :=
  ∃ D : DataW Unit, w.ownsMap Tryz.prog K (plainElem Tryz.prog 3) B n D ∧ ∀ k, D.atKey k (.lit (.int .i64 0)) = .lit (.int .i64 (c k))
theorem CM.made (K : TypeId) (w : World) : CM K (w.alloc (.map #[] 0)) w.heap.size 0 (fun _ => 0) := ⟨.map [], World.ownsMap_made _ _ _ _, fun _ => rfl⟩
theorem CM.kept {K : TypeId} {w w' : World} {B n : Nat} {c : Lit → Int} {row : Option Nat} (h : CM K w B n c) (hg : w.grownBy w' row) (hne : some B ≠ row) : CM K w' B n c :=
  let ⟨D, h1, h2⟩ := h
  ⟨D, h1.kept hg hne, h2⟩
theorem CM.below {K : TypeId} {w w' : World} {B n : Nat} {c : Lit → Int} (h : CM K w B n c) (hb : Below w.heap.size w w') : CM K w' B n c :=
  h.kept (row := none) ⟨hb.os, hb.tape, hb.output, hb.size, fun i hi _ => hb.block i hi⟩ (by simp)
theorem CM.lt {K : TypeId} {w : World} {B n : Nat} {c : Lit → Int} (h : CM K w B n c) : B < w.heap.size := let ⟨_, h1, _⟩ := h; h1.lt
theorem CM.mono {K : TypeId} {w : World} {B n n' : Nat} {c : Lit → Int} (h : CM K w B n c) (hn : n ≤ n') : CM K w B n' c := let ⟨D, h1, h2⟩ := h; ⟨D, h1.mono hn, h2⟩
theorem CM.congr {K : TypeId} {w : World} {B n : Nat} {c d : Lit → Int} (h : CM K w B n c) (e : ∀ k, c k = d k) : CM K w B n d := let ⟨D, h1, h2⟩ := h; ⟨D, h1, fun k => by rw [h2, e]⟩
theorem zero_count (w : World) : (zeroValue 3).run Tryz.prog w = .ok (.int .i64 0) w := by kernel_rfl
theorem i64_wf {y : Int} (h : I64 y) : (Lit.int .i64 y).wf = true := by
  unfold I64 at h
  simp only [Lit.wf, IntKind.min, IntKind.max, IntKind.signed, IntKind.bits, Bool.and_eq_true, decide_eq_true_eq, if_true]
  omega
/-- Reading a count. -/
theorem wp_lookC (w : World) {ops : Array Oper} {rest : List Oper} {o : Oper} {a : Act} {Q : Exit → Act → World → Prop} (hg : o.guard = none) (m x : Operand) (T K : TypeId)
    (hop : o.op = Op.lookup T m x false) (law : Keyed Tryz.prog K) (ht : Tryz.prog.underlying T = some (.map K 3)) (B n : Nat) (c : Lit → Int) (hm : a.eval m = .map (some B)) (hc : CM K w B n c)
    (key : Value) (kl : Lit) (hx : a.eval x = key) (hkey : keyOf Tryz.prog K key = some kl) (h : wpList Tryz.prog ops Q rest (a.put o.dst (.int .i64 (c kl))) w) : wpList Tryz.prog ops Q (o :: rest) a w := by
  obtain ⟨D, h1, h2⟩ := hc
  refine wpList_lookup_own_int w hg m x T hop K 3 .i64 law ht Tryz.underlying3 (zero_count w) B n D hm h1 key kl hx hkey (fun d hat _ => ?_)
  rw [h2] at hat
  injection hat with hat
  injection hat with _ e
  rw [← e]; exact h
/-- What is read behind the writing of y at kl. -/
noncomputable def updC (c : Lit → Int) (kl : Lit) (y : Int) (k : Lit) : Int := @ite _ (k = kl) (Classical.propDecidable _) y (c k)
theorem updC_same (c : Lit → Int) (kl : Lit) (y : Int) : updC c kl y kl = y := by unfold updC; rw [if_pos rfl]
theorem updC_other {c : Lit → Int} {kl k : Lit} {y : Int} (h : k ≠ kl) : updC c kl y k = c k := by unfold updC; rw [if_neg h]
/-- Writing a count. -/
theorem wp_putC (w : World) {ops : Array Oper} {rest : List Oper} {o : Oper} {a : Act} {Q : Exit → Act → World → Prop} (hg : o.guard = none) (m x v : Operand) (T K : TypeId)
    (hop : o.op = Op.mapUpdate T m x v) (law : Keyed Tryz.prog K) (ht : Tryz.prog.underlying T = some (.map K 3)) (B n : Nat) (c : Lit → Int) (hm : a.eval m = .map (some B)) (hc : CM K w B n c) (hn : n < maxLen)
    (key : Value) (kl : Lit) (y : Int) (hx : a.eval x = key) (hv : a.eval v = .int .i64 y) (hkey : keyOf Tryz.prog K key = some kl) (hkl : WideAt.IsKeyLit kl) (hy : I64 y)
    (h : ∀ w', CM K w' B (n + 1) (updC c kl y) → w.grownBy w' (some B) → wpList Tryz.prog ops Q rest (a.put o.dst undef) w') : wpList Tryz.prog ops Q (o :: rest) a w := by
  obtain ⟨D, h1, h2⟩ := hc
  have hD : IsMap D := by obtain ⟨es, _, _, _, _, e⟩ := h1; exact ⟨_, e⟩
  refine wpList_mapUpdate_own w hg m x v T hop K 3 law ht _ B n D hm h1 hn key _ kl hx hv hkey _ [] (plainElem_int Tryz.underlying3 (i64_wf hy)) (fun w' h3 h4 => h w' ⟨_, h3, fun k => ?_⟩ h4)
  by_cases e : k = kl
  · subst e; rw [atKey_put_same hD hkl, updC_same]
  · rw [atKey_put_other e, updC_other e, h2]
end Go.Proofs.YtmhelhjjadoiaaaGreatDoor
