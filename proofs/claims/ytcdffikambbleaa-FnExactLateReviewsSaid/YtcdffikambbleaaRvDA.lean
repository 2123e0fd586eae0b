/- Reviews that are drawn. No condition but those stated. -/
import Derived.Test.YtcdffikambbleaaCurG
import Derived.Test.YtcdffikambbleaaRevK
import Derived.Deep.RegionHeld3
import Derived.Deep.DrawnRows
namespace Go.Proofs.Ytcdffikambbleaa
set_option linter.unusedVariables false
set_option linter.unusedSimpArgs false
open Go.RowKit Go.Sort
attribute [local go_sem ↓] Go.wp_at_zero Go.wp_at_succ
def c3v (rid due : Int) (v : Value) (m : Nat) : Value := if m = 0 then .int .i64 rid else if m = 1 then .int .i64 due else v
theorem row3_alloc (w : World) (t : TypeId) (rid due : Int) (v : Value) : (w.alloc (.cells #[.int .i64 rid, .int .i64 due, v] t)).rowIs w.heap.size t 3 (c3v rid due v) :=
  World.rowIs_alloc w #[.int .i64 rid, .int .i64 due, v] t (c3v rid due v) (fun i hi => by
    match i, hi with
    | 0, _ => rfl
    | 1, _ => rfl
    | 2, _ => rfl
    | n + 3, h => exact absurd h (by simp))
theorem C_amongL (B m : Nat) (cs : Array Value) (n cap g : Nat) (w : World) (T : TypeId) (hg : w.heap.size = g) (h : Cu w B m) (hm : m ≤ 1099511627776) (h1 : 1 ≤ n) (hn : n ≤ cs.size) (h2 : n ≤ 200)
    (p : Int → Bool) (hall : cs.toList.all (fun v => isI v && p (unI v)) = true) :
    Calls Try.prog 97 #[.pointer (some ⟨B, 0, none⟩), .slice (some ⟨g, 0, none⟩) n cap] (w.alloc (.cells cs T)) fun e w' => ∃ x : Int, e = .returned (.int .i64 x) ∧ p x = true ∧ Cu w' B (m + 1) ∧ w.grownBy w' (some B) := by
  subst hg
  have hl := h.lt
  refine (C_amongR B m cs n cap _ _ T (row_lit w cs T) (by omega) (h.alloc _) hm h1 hn h2 p hall).mono ?_
  rintro e w' ⟨x, rfl, hp, hc, hb⟩
  exact ⟨x, rfl, hp, hc, ((Chg.of_below (lo := B) (hi := B + 1) ((Below.refl _ _).alloc (Nat.le_refl _) _)).trans (Chg.of_grown hb)).grown⟩
theorem C_amongD (B m : Nat) (cs : Array Value) (n cap g : Nat) (w : World) (T : TypeId) (hg : w.heap.size = g) (h : Cu w B m) (hm : m ≤ 1099511627776) (h1 : 1 ≤ n) (hn : n ≤ cs.size) (h2 : n ≤ 200)
    (p : Int → Bool) (hall : cs.toList.all (fun v => isI v && p (unI v)) = true) :
    Calls Try.prog 97 #[.pointer (some ⟨B, 0, none⟩), .slice (some ⟨g, 0, none⟩) n cap] (w.alloc (.cells cs T)).drew fun e w' => ∃ x : Int, e = .returned (.int .i64 x) ∧ p x = true ∧ Cu w' B (m + 1) ∧ w.grownBy w' (some B) := by
  subst hg
  have hl := h.lt
  refine (C_amongR B m cs n cap w.heap.size (w.alloc (.cells cs T)).drew T (show (w.alloc (.cells cs T)).drew.rowIs w.heap.size T cs.size (fun j => cs.getD j undef) from row_lit w cs T) (by omega) (h.alloc _).drew hm h1 hn h2 p hall).mono ?_
  rintro e w' ⟨x, rfl, hp, hc, hb⟩
  exact ⟨x, rfl, hp, hc, ((Chg.of_below (lo := B) (hi := B + 1) ((Below.refl _ _).alloc (Nat.le_refl _) _)).drew.trans (Chg.of_grown hb)).grown⟩
/-- What the drawing of a review keeps. -/
structure RB (B m g0 gx : Nat) (w W : World) (rid due : Int) (v : Value) : Prop where
  cu : Cu W B m
  ch : Chg B (B + 1) w W
  r0 : W.rowIs g0 27 3 (c3v 0 0 (.slice none 0 0))
  rx : W.rowIs gx 27 3 (c3v rid due v)
  hw : w.heap.size ≤ g0
  l0 : B < g0
  lx : g0 < gx
theorem RB.step {B m m' g0 gx : Nat} {w W W' : World} {rid due : Int} {v : Value} (h : RB B m g0 gx w W rid due v) (hc : Chg B (B + 1) W W') (hcu : Cu W' B m') : RB B m' g0 gx w W' rid due v :=
  ⟨hcu, h.ch.trans hc, row_chg h.r0 hc (.inr h.l0), row_chg h.rx hc (.inr (Nat.lt_trans h.l0 h.lx)), h.hw, h.l0, h.lx⟩
theorem RB.below {B m g0 gx : Nat} {w W W' : World} {rid due : Int} {v : Value} (h : RB B m g0 gx w W rid due v) (hb : Below W.heap.size W W') : RB B m g0 gx w W' rid due v := h.step (Chg.of_below hb) (h.cu.below hb)
theorem RB.alloc {B m g0 gx : Nat} {w W : World} {rid due : Int} {v : Value} (h : RB B m g0 gx w W rid due v) (o : Obj) : RB B m g0 gx w (W.alloc o) rid due v := h.below ((Below.refl _ _).alloc (Nat.le_refl _) o)
theorem RB.drew {B m g0 gx : Nat} {w W : World} {rid due : Int} {v : Value} (h : RB B m g0 gx w W rid due v) : RB B m g0 gx w W.drew rid due v := h.step (Chg.refl _ _ _).drew h.cu.drew
theorem RB.mono {B m m' g0 gx : Nat} {w W : World} {rid due : Int} {v : Value} (h : RB B m g0 gx w W rid due v) (hm : m ≤ m') : RB B m' g0 gx w W rid due v := ⟨h.cu.mono hm, h.ch, h.r0, h.rx, h.hw, h.l0, h.lx⟩
theorem RB.grow {B m g0 gx : Nat} {w W W' : World} {rid due : Int} {v u : Value} (h : RB B m g0 gx w W rid due v) (hg : W.grownBy W' u.ownBlock) (hv : ∀ k, u.ownBlock = some k → gx < k) : RB B m g0 gx w W' rid due v := by
  have hc : Chg (gx + 1) (max (gx + 1) W.heap.size) W W' := ⟨hg.os, hg.tape, hg.output, hg.size, fun k hk hr => hg.block k hk (fun e => by have := hv k e.symm; omega)⟩
  have h1 := h.l0
  have h2 := h.lx
  have h3 := h.hw
  exact ⟨h.cu.chg hc (by omega), ⟨hc.os.trans h.ch.os, hc.tape.trans h.ch.tape, hc.output.trans h.ch.output, Nat.le_trans h.ch.size hc.size, fun k hk hr => (hc.block k (Nat.lt_of_lt_of_le hk h.ch.size) (.inl (by omega))).trans (h.ch.block k hk hr)⟩,
    row_chg h.r0 hc (.inl (by omega)), row_chg h.rx hc (.inl (by omega)), h3, h1, h2⟩
theorem c3v_set0 (rid due y : Int) (v : Value) (i : Nat) : (if i = 0 then Value.int .i64 y else c3v rid due v i) = c3v y due v i := by
  unfold c3v; split <;> simp_all
theorem c3v_set1 (rid due y : Int) (v : Value) (i : Nat) : (if i = 1 then Value.int .i64 y else c3v rid due v i) = c3v rid y v i := by
  unfold c3v; split <;> simp_all
theorem c3v_set2 {rid due : Int} {v u : Value} {i : Nat} (hi : i < 3) : (if i = 2 then u else c3v rid due v i) = c3v rid due u i := by
  match i, hi with
  | 0, _ => rfl
  | 1, _ => rfl
  | 2, _ => rfl
theorem RB.set {B m g0 gx i : Nat} {w W : World} {rid due rid' due' : Int} {v v' u : Value} (h : RB B m g0 gx w W rid due v) (e : ∀ j, j < 3 → (if j = i then u else c3v rid due v j) = c3v rid' due' v' j) :
    RB B m g0 gx w (W.setCell ⟨gx, i, none⟩ u) rid' due' v' := by
  have h1 := h.l0
  have h2 := h.lx
  have h3 := h.hw
  refine ⟨h.cu.setFar (p := ⟨gx, i, none⟩) (by simp; omega) _, h.ch.setNew (p := ⟨gx, i, none⟩) (by simp; omega) _, h.r0.setOther (a := ⟨gx, i, none⟩) (by simp; omega) _, ?_, h3, h1, h2⟩
  exact (h.rx.set i u).congr e
theorem OI.form {base : Nat} {w : World} {v : Value} {xs : List Int} (h : OI base w v xs) : ∃ A cap, v = .slice A xs.length cap := by
  obtain ⟨A, cap, e, _⟩ := h.wi.si
  exact ⟨A, cap, e⟩
theorem OI.setFar {base : Nat} {w : World} {v : Value} {xs : List Int} (h : OI base w v xs) {p : Addr} (hp : p.block < base) (u : Value) : OI base (w.setCell p u) v xs :=
  h.of_block fun g hg => Below.heap_setCell _ _ _ _ (by have := (World.ownsRow.lt h g hg).1; omega)
theorem OI.chg {base lo hi : Nat} {w w' : World} {v : Value} {xs : List Int} (hc : Chg lo hi w w') (hl : hi ≤ base) (h : OI base w v xs) : OI base w' v xs :=
  h.of_block fun g hg => hc.block g (World.ownsRow.lt h g hg).2 (.inr (by have := (World.ownsRow.lt h g hg).1; omega))
theorem OI.rowAt {w : World} {g : Nat} (hg : w.heap.size = g) (cs : Array Value) (xs : List Int) (base : Nat) (hb : base ≤ w.heap.size) (hx : cs.toList = xs.map (Value.int .i64)) (hn : xs.length ≤ 9223372036854775807) : OI base (w.alloc (.cells cs 3)) (.slice (some ⟨g, 0, none⟩) xs.length xs.length) xs := by
  subst hg
  have hl : cs.size = xs.length := by rw [← Array.length_toList, hx, List.length_map]
  exact ⟨by simp, .inr ⟨w.heap.size, xs.length, cs, rfl, hb, heap_alloc_new w _, Nat.le_refl _, by unfold maxLen; exact hn, by rw [hl, Nat.mul_one], by rw [hx, Nat.mul_one, List.take_of_length_le (by simp)]⟩⟩
/-- Appending one number at a step of a region that draws its order. -/
theorem step_app1 (w : World) {ops : Array Oper} {o : Oper} {a : Act} {K : Act → World → Prop} {Q : Exit → Act → World → Prop} {E : Prop} (hgd : o.guard = none) (s x : Operand)
    (ho : o.op = .call { callee := .builtin .append, args := #[s, x], argTypes := #[22, 22] })
    (base : Nat) (v : Value) (xs : List Int) (hs : a.eval s = v) (hown : OI base w v xs) (A : Option Addr) (c : Nat) (y : Int) (hx : a.eval x = .slice A 1 c) (hr : SI w (.slice A 1 c) 1 (fun _ => y))
    (hlen : xs.length + 1 ≤ 1099511627776) (hbase : base ≤ w.heap.size)
    (h : ∀ v' w', OI base w' v' (xs ++ [y]) → w.grownBy w' v.ownBlock → K (a.put o.dst v') w') : if Region.wanted o (yielded ops a.tmps) = true then Oper.wp Try.prog o a w K Q else E := by
  obtain ⟨i0, hi, hz0, hz1, hz2⟩ := info_parts info_int
  refine step_append_any w hgd s x 22 ho base 3 i0 (.int .i64 0) 1 8 Try.underlying22 hi hz0 hz1 hz2 rfl (by omega) v xs.length (xs.map (Value.int .i64)) hs hown w.heap.size A 1 c _ hx hr.reads
    (fun u hu => ?_) (by unfold maxLen; omega) (by omega) hbase (fun v' w' h1 h2 _ => h v' w' ?_ h2)
  · obtain ⟨y, _, rfl⟩ := List.mem_map.1 hu; rfl
  · unfold OI; rw [List.length_append, List.map_append]; exact h1
/-- One number that is just laid. -/
theorem si_one (w : World) (x : Int) (T : TypeId) : SI (w.alloc (.cells #[.int .i64 x] T)) (.slice (some ⟨w.heap.size, 0, none⟩) 1 1) 1 (fun _ => x) :=
  ⟨_, _, rfl, fun _ => ⟨w.heap.size, 0, rfl, by simp, fun j hj => by
    obtain rfl : j = 0 := by omega
    exact cell_new w _ _ 0 _ rfl⟩, Nat.le_refl _, by omega⟩
end Go.Proofs.Ytcdffikambbleaa
