/- The cursor: what all draws share. No condition but those stated. -/
import Derived.Test.YtmhelhjjadoiaaaGreatDoorCode
namespace Go.Proofs.YtmhelhjjadoiaaaGreatDoor
set_option linter.unusedVariables false
set_option linter.unusedSimpArgs false
open Go.RowKit Go.Sort
def isI : Value → Bool
  | .int .i64 _ => true
  | _ => false
def unI : Value → Int
  | .int _ x => x
  | _ => 0
theorem isI_un {v : Value} (h : isI v = true) : v = .int .i64 (unI v) := by
  cases v with
  | int k x => cases k <;> first | rfl | cases h
  | _ => cases h
def isT : Value → Bool
  | .string _ => true
  | _ => false
def unT : Value → ByteArray
  | .string x => x
  | _ => ByteArray.empty
theorem isT_un {v : Value} (h : isT v = true) : v = .string (unT v) := by
  cases v with
  | string x => rfl
  | _ => cases h
theorem SU.form {w : World} {v : Value} {n : Nat} (h : SU w v n) : ∃ A cap, v = .slice A n cap := by
  obtain ⟨A, cap, f, e, _⟩ := h; exact ⟨A, cap, e⟩
theorem Chg.setNew {lo hi : Nat} {a b : World} (h : Chg lo hi a b) {p : Addr} (hp : a.heap.size ≤ p.block) (u : Value) : Chg lo hi a (b.setCell p u) :=
  ⟨h.os, h.tape, h.output, by simpa [World.setCell] using h.size, fun k hk hr => (Below.heap_setCell _ _ _ _ (by omega)).trans (h.block k hk hr)⟩
theorem Chg.alloc {lo hi : Nat} {a b : World} (h : Chg lo hi a b) (o : Obj) : Chg lo hi a (b.alloc o) :=
  h.trans (Chg.of_below ((Below.refl _ _).alloc (Nat.le_refl _) o))
theorem Chg.regrown {lo hi : Nat} {a b : World} (h : Chg lo hi a b) (d : Nat) (os : Array Obj) : Chg lo hi a (grow (redrawn b d) os) :=
  h.trans (Chg.of_below (below_regrown _ _ _))
theorem Cu.alloc {w : World} {B m : Nat} (h : Cu w B m) (o : Obj) : Cu (w.alloc o) B m := h.below ((Below.refl _ _).alloc (Nat.le_refl _) o)
theorem Cu.setFar {w : World} {B m : Nat} (h : Cu w B m) {p : Addr} (hp : B < p.block) (u : Value) : Cu (w.setCell p u) B m :=
  h.chg (lo := p.block) (hi := p.block + 1) ((Chg.refl _ _ _).setCell (Nat.le_refl _) (Nat.lt_succ_self _) u) hp
theorem row_chg {w w' : World} {g n : Nat} {T : TypeId} {F : Nat → Value} {lo hi : Nat} (h : w.rowIs g T n F) (hc : Chg lo hi w w') (hr : g < lo ∨ hi ≤ g) : w'.rowIs g T n F := h.of_block (hc.block g h.lt hr)
theorem row_alloc {w : World} {g n : Nat} {T : TypeId} {F : Nat → Value} (h : w.rowIs g T n F) (o : Obj) : (w.alloc o).rowIs g T n F := h.of_block (Below.heap_alloc _ _ _ h.lt)
/-- A row that is just made out of a literal. -/
theorem row_lit (w : World) (cs : Array Value) (T : TypeId) : (w.alloc (.cells cs T)).rowIs w.heap.size T cs.size (fun j => cs.getD j undef) :=
  World.rowIs_alloc w cs T _ (fun i hi => by simp [Array.getD, hi])
theorem lit_get {cs : Array Value} {q : Value → Bool} (h : cs.toList.all q = true) {j : Nat} (hj : j < cs.size) : q (cs.getD j undef) = true := by
  have e : cs.getD j undef = cs[j] := by simp [Array.getD, hj]
  rw [e]
  exact List.all_eq_true.1 h _ (by simp)
theorem C_amongR (B m : Nat) (cs : Array Value) (n cap g : Nat) (w : World) (T : TypeId) (hrow : w.rowIs g T cs.size (fun j => cs.getD j undef)) (hg : g ≠ B) (h : Cu w B m) (hm : m ≤ 1099511627776) (h1 : 1 ≤ n) (hn : n ≤ cs.size) (h2 : n ≤ 200)
    (p : Int → Bool) (hall : cs.toList.all (fun v => isI v && p (unI v)) = true) :
    Calls Tryz.prog 49 #[.pointer (some ⟨B, 0, none⟩), .slice (some ⟨g, 0, none⟩) n cap] w fun e w' => ∃ x : Int, e = .returned (.int .i64 x) ∧ p x = true ∧ Cu w' B (m + 1) ∧ w.grownBy w' (some B) := by
  have hlt := h.lt
  have hgl := hrow.lt
  have hcells : ∀ j, j < n → ∃ y, w.cell? ⟨g, j, none⟩ = some (.int .i64 y) ∧ p y = true := fun j hj => by
    have hq := lit_get hall (show j < cs.size by omega)
    simp only [Bool.and_eq_true] at hq
    refine ⟨unI (cs.getD j undef), ?_, hq.2⟩
    rw [hrow.cell (i := j) (by omega)]
    exact congrArg some (isI_un hq.1)
  have HC := Lib.hid hcells
  have hg' : g ≠ B := hg
  clear hcells hrow hall hg hn
  go_enter Tryz.func49, Tryz.ntmps49
  go_wp2_with fail
  refine (C_pick B m n _ h hm (by omega) (by omega)).mono ?_; rintro e w1 ⟨x, rfl, ⟨hx0, hx1⟩, hcu, hc⟩
  obtain ⟨r, rfl⟩ : ∃ r : Nat, x = (r : Int) := ⟨x.toNat, by omega⟩
  have hr : r < n := by omega
  obtain ⟨y, hy, hp⟩ := HC.out r hr
  have hck : w1.cell? ⟨g, r, none⟩ = some (.int .i64 y) := (World.cell?_of_block (w := w) (a := ⟨g, r, none⟩) (hc.block g hgl (by intro e; injection e with e; exact hg' e))).trans hy
  have HP := Lib.hid hp
  clear hy hp
  go_wp2_with fail
  go_ret
  exact ⟨_, rfl, HP.out, hcu, hc⟩
def anyI (_ : Int) : Bool := true
def i64B (x : Int) : Bool := decide (-9223372036854775808 ≤ x) && decide (x ≤ 9223372036854775807)
theorem i64_of {x : Int} (h : i64B x = true) : I64 x := by simpa [i64B, I64] using h
theorem C_ofR (B m : Nat) (cs : Array Value) (n cap g : Nat) (w : World) (T : TypeId) (hrow : w.rowIs g T cs.size (fun j => cs.getD j undef)) (hg : g ≠ B) (h : Cu w B m) (hm : m ≤ 1099511627776) (h1 : 1 ≤ n) (hn : n ≤ cs.size) (h2 : n ≤ 200)
    (p : ByteArray → Bool) (hall : cs.toList.all (fun v => isT v && p (unT v)) = true) :
    Calls Tryz.prog 77 #[.pointer (some ⟨B, 0, none⟩), .slice (some ⟨g, 0, none⟩) n cap] w fun e w' => ∃ x : ByteArray, e = .returned (.string x) ∧ p x = true ∧ Cu w' B (m + 1) ∧ w.grownBy w' (some B) := by
  have hlt := h.lt
  have hgl := hrow.lt
  have hcells : ∀ j, j < n → ∃ y, w.cell? ⟨g, j, none⟩ = some (.string y) ∧ p y = true := fun j hj => by
    have hq := lit_get hall (show j < cs.size by omega)
    simp only [Bool.and_eq_true] at hq
    refine ⟨unT (cs.getD j undef), ?_, hq.2⟩
    rw [hrow.cell (i := j) (by omega)]
    exact congrArg some (isT_un hq.1)
  have HC := Lib.hid hcells
  have hg' : g ≠ B := hg
  clear hcells hrow hall hg hn
  go_enter Tryz.func77, Tryz.ntmps77
  go_wp2_with fail
  refine (C_pick B m n _ h hm (by omega) (by omega)).mono ?_; rintro e w1 ⟨x, rfl, ⟨hx0, hx1⟩, hcu, hc⟩
  obtain ⟨r, rfl⟩ : ∃ r : Nat, x = (r : Int) := ⟨x.toNat, by omega⟩
  have hr : r < n := by omega
  obtain ⟨y, hy, hp⟩ := HC.out r hr
  have hck : w1.cell? ⟨g, r, none⟩ = some (.string y) := (World.cell?_of_block (w := w) (a := ⟨g, r, none⟩) (hc.block g hgl (by intro e; injection e with e; exact hg' e))).trans hy
  have HP := Lib.hid hp
  clear hy hp
  go_wp2_with fail
  go_ret
  exact ⟨_, rfl, HP.out, hcu, hc⟩
end Go.Proofs.YtmhelhjjadoiaaaGreatDoor
