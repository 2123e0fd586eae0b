/- Texts of this claim in one: GlA, GlB, GlC, GlD, GlE, GlF, GlG. No condition but those stated. -/
import Derived.Test.YtmhelhjjadoiaaaGreatDoorCurG
import Derived.Test.YtmhelhjjadoiaaaGreatDoorLkR
import Derived.Test.YtmhelhjjadoiaaaGreatDoorPackC
import Derived.Test.YtmhelhjjadoiaaaGreatDoorIntsE
import Derived.BigQuiet
import Derived.Test.YtmhelhjjadoiaaaGreatDoorPackD
import Derived.Test.YtmhelhjjadoiaaaGreatDoorPackA
/- A look that is drawn. No condition but those stated. -/
namespace Go.Proofs.YtmhelhjjadoiaaaGreatDoor
set_option linter.unusedVariables false
set_option linter.unusedSimpArgs false
open Go.RowKit Go.Sort
theorem C_ofL (B m : Nat) (cs : Array Value) (n cap g : Nat) (w : World) (T : TypeId) (hg : w.heap.size = g) (h : Cu w B m) (hm : m ≤ 1099511627776) (h1 : 1 ≤ n) (hn : n ≤ cs.size) (h2 : n ≤ 200)
    (p : ByteArray → Bool) (hall : cs.toList.all (fun v => isT v && p (unT v)) = true) :
    Calls Tryz.prog 77 #[.pointer (some ⟨B, 0, none⟩), .slice (some ⟨g, 0, none⟩) n cap] (w.alloc (.cells cs T)) fun e w' => ∃ x : ByteArray, e = .returned (.string x) ∧ p x = true ∧ Cu w' B (m + 1) ∧ w.grownBy w' (some B) := by
  subst hg
  have hl := h.lt
  refine (C_ofR B m cs n cap _ _ T (row_lit w cs T) (by omega) (h.alloc _) hm h1 hn h2 p hall).mono ?_
  rintro e w' ⟨x, rfl, hp, hc, hb⟩
  exact ⟨x, rfl, hp, hc, ((Chg.of_below (lo := B) (hi := B + 1) ((Below.refl _ _).alloc (Nat.le_refl _) _)).trans (Chg.of_grown hb)).grown⟩
theorem C_amongLc (B m : Nat) (cs : Array Value) (n cap g : Nat) (w : World) (T : TypeId) (hg : w.heap.size = g) (h : Cu w B m) (hm : m ≤ 1099511627776) (h1 : 1 ≤ n) (hn : n ≤ cs.size) (h2 : n ≤ 200)
    (p : Int → Bool) (hall : cs.toList.all (fun v => isI v && p (unI v)) = true) :
    Calls Tryz.prog 49 #[.pointer (some ⟨B, 0, none⟩), .slice (some ⟨g, 0, none⟩) n cap] (w.alloc (.cells cs T)) fun e w' => ∃ x : Int, e = .returned (.int .i64 x) ∧ p x = true ∧ Cu w' B (m + 1) ∧ w.grownBy w' (some B) := by
  subst hg
  have hl := h.lt
  refine (C_amongR B m cs n cap _ _ T (row_lit w cs T) (by omega) (h.alloc _) hm h1 hn h2 p hall).mono ?_
  rintro e w' ⟨x, rfl, hp, hc, hb⟩
  exact ⟨x, rfl, hp, hc, ((Chg.of_below (lo := B) (hi := B + 1) ((Below.refl _ _).alloc (Nat.le_refl _) _)).trans (Chg.of_grown hb)).grown⟩
def sh20 (x : ByteArray) : Bool := decide (x.size ≤ 20)
theorem sh20_le {x : ByteArray} (h : sh20 x = true) : x.size ≤ 20 := by simpa [sh20] using h
def sm7 (x : Int) : Bool := decide (-3000000 ≤ x) && decide (x ≤ 3000000)
theorem sm7_of {x : Int} (h : sm7 x = true) : -3000000 ≤ x ∧ x ≤ 3000000 := by simpa [sm7] using h
/-- A look as it is drawn. -/
def smK (x : Lk) : Bool := sm7 x.tick && sh20 x.why
theorem smK_of {x : Lk} (h : smK x = true) : (-3000000 ≤ x.tick ∧ x.tick ≤ 3000000) ∧ x.why.size ≤ 20 := by
  unfold smK at h
  rw [Bool.and_eq_true] at h
  exact ⟨sm7_of h.1, sh20_le h.2⟩
theorem smK_mk {x : Lk} (h1 : -3000000 ≤ x.tick) (h2 : x.tick ≤ 3000000) (h3 : sh20 x.why = true) : smK x = true := by
  unfold smK sm7
  rw [Bool.and_eq_true, Bool.and_eq_true, decide_eq_true_eq, decide_eq_true_eq]
  exact ⟨⟨h1, h2⟩, h3⟩
theorem row5_alloc (w : World) (T : TypeId) (x : Lk) : (w.alloc (.cells #[.int .i64 x.tick, .int .i64 x.who, .int .i64 x.rid, .int .i64 x.kind, .string x.why] T)).rowIs w.heap.size T 5 (cK x) :=
  World.rowIs_alloc w #[.int .i64 x.tick, .int .i64 x.who, .int .i64 x.rid, .int .i64 x.kind, .string x.why] T (cK x) (fun i hi => by
    match i, hi with
    | 0, _ => rfl
    | 1, _ => rfl
    | 2, _ => rfl
    | 3, _ => rfl
    | 4, _ => rfl
    | n + 5, h => exact absurd h (by simp))
/-- What the drawing of a look keeps. -/
structure KB (B m g0 gx : Nat) (w W : World) (x : Lk) : Prop where
  cu : Cu W B m
  ch : Chg B (B + 1) w W
  r0 : W.rowIs g0 37 5 (cK (⟨0, 0, 0, 0, (⟨#[]⟩ : ByteArray)⟩ : Lk))
  rx : W.rowIs gx 37 5 (cK x)
  hw : w.heap.size ≤ g0
  l0 : B < g0
  lx : g0 < gx
theorem KB.step {B m m' g0 gx : Nat} {w W W' : World} {x : Lk} (h : KB B m g0 gx w W x) (hc : Chg B (B + 1) W W') (hcu : Cu W' B m') : KB B m' g0 gx w W' x :=
  ⟨hcu, h.ch.trans hc, row_chg h.r0 hc (.inr h.l0), row_chg h.rx hc (.inr (Nat.lt_trans h.l0 h.lx)), h.hw, h.l0, h.lx⟩
theorem KB.cells {B m g0 gx : Nat} {w W : World} {x : Lk} (h : KB B m g0 gx w W x) :
    W.cell? ⟨gx, 0, none⟩ = some (.int .i64 x.tick) ∧ W.cell? ⟨gx, 1, none⟩ = some (.int .i64 x.who) ∧ W.cell? ⟨gx, 2, none⟩ = some (.int .i64 x.rid) ∧ W.cell? ⟨gx, 3, none⟩ = some (.int .i64 x.kind) ∧ W.cell? ⟨gx, 4, none⟩ = some (.string x.why) ∧
    W.frozen? ⟨gx, 0, none⟩ = false ∧ W.frozen? ⟨gx, 1, none⟩ = false ∧ W.frozen? ⟨gx, 2, none⟩ = false ∧ W.frozen? ⟨gx, 3, none⟩ = false ∧ W.frozen? ⟨gx, 4, none⟩ = false :=
  ⟨h.rx.cell (i := 0) (by omega), h.rx.cell (i := 1) (by omega), h.rx.cell (i := 2) (by omega), h.rx.cell (i := 3) (by omega), h.rx.cell (i := 4) (by omega), h.rx.frozen 0, h.rx.frozen 1, h.rx.frozen 2, h.rx.frozen 3, h.rx.frozen 4⟩
theorem KB.cells0 {B m g0 gx : Nat} {w W : World} {x : Lk} (h : KB B m g0 gx w W x) :
    W.cell? ⟨g0, 0, none⟩ = some (.int .i64 0) ∧ W.cell? ⟨g0, 1, none⟩ = some (.int .i64 0) ∧ W.cell? ⟨g0, 2, none⟩ = some (.int .i64 0) ∧ W.cell? ⟨g0, 3, none⟩ = some (.int .i64 0) ∧ W.cell? ⟨g0, 4, none⟩ = some (.string (⟨#[]⟩ : ByteArray)) ∧
    W.frozen? ⟨g0, 0, none⟩ = false ∧ W.frozen? ⟨g0, 1, none⟩ = false ∧ W.frozen? ⟨g0, 2, none⟩ = false ∧ W.frozen? ⟨g0, 3, none⟩ = false ∧ W.frozen? ⟨g0, 4, none⟩ = false :=
  ⟨h.r0.cell (i := 0) (by omega), h.r0.cell (i := 1) (by omega), h.r0.cell (i := 2) (by omega), h.r0.cell (i := 3) (by omega), h.r0.cell (i := 4) (by omega), h.r0.frozen 0, h.r0.frozen 1, h.r0.frozen 2, h.r0.frozen 3, h.r0.frozen 4⟩
set_option maxRecDepth 100000 in
set_option maxHeartbeats 8000000 in
theorem C_look (B m : Nat) (t : Int) (w : World) (hcu : Cu w B m) (hm : m ≤ 900000) (ht0 : -3000000 ≤ t) (ht1 : t ≤ 3000000) :
    Calls Tryz.prog 82 #[.pointer (some ⟨B, 0, none⟩), .int .i64 t] w fun e w' => ∃ x : Lk, e = .returned (.agg #[.int .i64 (x).tick, .int .i64 (x).who, .int .i64 (x).rid, .int .i64 (x).kind, .string (x).why]) ∧ smK x = true ∧ Cu w' B (m + 8) ∧ w.grownBy w' (some B) := by
  have hlt := hcu.lt
  obtain ⟨g0, hg0⟩ : ∃ g, g = w.heap.size := ⟨_, rfl⟩
  obtain ⟨w0, hw0⟩ : ∃ w0, w0 = w.alloc (.cells #[.int .i64 0, .int .i64 0, .int .i64 0, .int .i64 0, .string (⟨#[]⟩ : ByteArray)] 37) := ⟨_, rfl⟩
  have hbw : Below w.heap.size w w0 := by rw [hw0]; (repeat (first | with_reducible exact Below.refl _ _ | with_reducible exact below_regrown _ _ _ | with_reducible refine bel_step0 (by assumption) ?_ | with_reducible refine bel_alloc0 ?_ _ | with_reducible refine bel_regrown0 ?_ _ _ | with_reducible refine bel_regrown ?_ (by first | omega | (simp; done) | (simp; omega)) _ _ | with_reducible refine below_drewN ?_ _ | with_reducible refine Below.drew ?_ | with_reducible refine Below.alloc ?_ (by first | omega | (simp; done) | (simp; omega)) _ | with_reducible refine Below.setCell ?_ (by first | omega | (simp; done) | (simp; omega)) _ | with_reducible refine bel_step (by assumption) (by first | omega | (simp; done) | (simp; omega)) ?_ | with_reducible refine bel_grown (by assumption) (by first | omega | (simp; done) | (simp; omega)) (by first | omega | (simp; done) | (simp; omega)) ?_))
  have r00 : w0.rowIs g0 37 5 (cK (⟨0, 0, 0, 0, (⟨#[]⟩ : ByteArray)⟩ : Lk)) := by rw [hw0, hg0]; exact row5_alloc w _ (⟨0, 0, 0, 0, (⟨#[]⟩ : ByteArray)⟩ : Lk)
  have cu0 := hcu.below hbw
  have HW0 := Lib.hid hw0.symm
  have HZ0 := Lib.hid (show w0.heap.size = g0 + 1 by rw [hw0, hg0]; simp)
  have HG0 := Lib.hid hg0.symm
  have HX := Lib.hid (And.intro hbw (And.intro r00 cu0))
  have hBg : B < g0 := by omega
  have hg0w : w.heap.size ≤ g0 := by omega
  clear hw0 hbw r00 cu0 hcu hg0 hlt
  go_enter Tryz.func82, Tryz.ntmps82
  go_wp2_with fail
  rw [HW0.out, HG0.out]
  refine (C_amongLc B m _ 4 4 _ w0 _ HZ0.out HX.out.2.2 (by omega) (by omega) (by decide) (by omega) sm7 (by decide)).mono ?_; rintro e w1 ⟨a, rfl, ha, cu1, hb1⟩
  have hc1 := Chg.of_grown hb1
  have X1 := Lib.hid (And.intro ((Chg.of_below HX.out.1).trans hc1) (row_chg HX.out.2.1 hc1 (.inr hBg)))
  have z1 := hc1.size
  have z0 := HZ0.out
  have hz1 : g0 + 1 ≤ w1.heap.size := by omega
  clear hc1 hb1 HX HZ0 HG0 HW0 z0 z1 ha
  go_wp2_with fail
  refine (C_amongLc B (m + 1) _ 4 4 _ w1 _ (by rfl) cu1 (by omega) (by omega) (by decide) (by omega) sm7 (by decide)).mono ?_; rintro e w2 ⟨b, rfl, hb, cu2, hb2⟩
  have X2 := Lib.hid (And.intro (X1.out.1.trans (Chg.of_grown hb2)) (row_chg X1.out.2 (Chg.of_grown hb2) (.inr hBg)))
  have hz2 : g0 + 1 ≤ w2.heap.size := Nat.le_trans hz1 hb2.size
  clear hb2 cu1 X1 hz1 hb
  go_wp2_with fail
  refine (C_pick B (m + 2) 3 w2 cu2 (by omega) (by omega) (by omega)).mono ?_; rintro e w3 ⟨c, rfl, _, cu3, hb3⟩
  have X3 := Lib.hid (And.intro (X2.out.1.trans (Chg.of_grown hb3)) (row_chg X2.out.2 (Chg.of_grown hb3) (.inr hBg)))
  have hz3 : g0 + 1 ≤ w3.heap.size := Nat.le_trans hz2 hb3.size
  clear hb3 cu2 X2 hz2
  go_wp2_with fail
  refine (C_ofL B (m + 3) _ 4 4 _ w3 _ (by rfl) cu3 (by omega) (by omega) (by decide) (by omega) sh20 (by decide)).mono ?_; rintro e w4 ⟨s, rfl, hs, cu4, hb4⟩
  have hc4 := Chg.of_grown hb4
  obtain ⟨gx, hgx⟩ : ∃ g, g = w4.heap.size := ⟨_, rfl⟩
  obtain ⟨w5, hw5⟩ : ∃ w5, w5 = w4.alloc (.cells #[.int .i64 t, .int .i64 a, .int .i64 b, .int .i64 c, .string s] 37) := ⟨_, rfl⟩
  have K5 : KB B (m + 4) g0 gx w w5 ⟨t, a, b, c, s⟩ := by
    have z4 := hc4.size
    rw [hw5]
    exact ⟨cu4.alloc _, (X3.out.1.trans hc4).alloc _, row_alloc (row_chg X3.out.2 hc4 (.inr hBg)) _, by rw [hgx]; exact row5_alloc w4 _ ⟨t, a, b, c, s⟩, hg0w, hBg, by omega⟩
  have K5 := Lib.hid K5
  have HS := Lib.hid hs
  have HW5 := Lib.hid hw5.symm
  have HGX := Lib.hid hgx.symm
  clear hw5 hgx hc4 hb4 cu4 cu3 X3 hs hz3
  go_upto_region 2 with fail
  rw [HW5.out, HGX.out]
  clear HW5 HGX
  go_wp2_with fail
  refine (C_pick B _ 90 w5 K5.out.cu (by omega) (by omega) (by omega)).mono ?_; rintro e w7 ⟨r, rfl, ⟨hr0, hr1⟩, cu7, hb7⟩
  have K7 := Lib.hid (K5.out.step (Chg.of_grown hb7) cu7)
  clear cu7 hb7 K5
  by_cases h0 : r = 0
  · subst h0
    (go_wp2_with fail; refine (C_amongLc B (m + 5) _ 2 2 _ w7 _ (by rfl) K7.out.cu (by omega) (by omega) (by decide) (by omega) sm7 (by decide)).mono ?_; rintro e w8 ⟨y, rfl, hy, cu8, hb8⟩; have K8 := Lib.hid (K7.out.step (Chg.of_grown hb8) cu8); have HY := Lib.hid (sm7_of hy); clear cu8 hb8 hy; have hR := K8.out; obtain ⟨x0, x1, x2, x3, x4, f0, f1, f2, f3, f4⟩ := KB.cells hR; obtain ⟨y0, y1, y2, y3, y4, e0, e1, e2, e3, e4⟩ := KB.cells0 hR; have hgn := KB.lx hR; have hgl := (KB.rx hR).lt; have hg0l := (KB.r0 hR).lt; have hgB := KB.l0 hR; have hne := Nat.ne_of_lt hgn; have hne' := hne.symm; clear hR; go_wp2_with fail; (go_light; refine bodyPost_ret (by simp (maxDischargeDepth := 3) [results, Tryz.results82, go_sem, *]; try rfl) rfl ?_; refine ⟨⟨y, a, b, c, s⟩, rfl, (smK_mk HY.out.1 HY.out.2 HS.out), ?_, ?_⟩; (next => ((repeat (first | with_reducible refine Cu.alloc ?_ _ | with_reducible refine Cu.setFar ?_ (by first | omega | (simp; done) | (simp; omega)) _)); exact Cu.mono (KB.cu K8.out) (by omega))); (next => (refine Chg.grown ?_; (repeat (first | with_reducible refine Chg.alloc ?_ _ | with_reducible refine Chg.setNew ?_ (by first | omega | (simp; done) | (simp; omega)) _)); exact KB.ch K8.out))))
  · have h0b : (r == 0) = false := by simpa using h0
    by_cases h1 : r = 1
    · subst h1
      clear h0
      (go_wp2_with fail; refine (C_amongLc B (m + 5) _ 2 2 _ w7 _ (by rfl) K7.out.cu (by omega) (by omega) (by decide) (by omega) sm7 (by decide)).mono ?_; rintro e w8 ⟨y, rfl, hy, cu8, hb8⟩; have K8 := Lib.hid (K7.out.step (Chg.of_grown hb8) cu8); have HY := Lib.hid (sm7_of hy); clear cu8 hb8 hy; have hR := K8.out; obtain ⟨x0, x1, x2, x3, x4, f0, f1, f2, f3, f4⟩ := KB.cells hR; obtain ⟨y0, y1, y2, y3, y4, e0, e1, e2, e3, e4⟩ := KB.cells0 hR; have hgn := KB.lx hR; have hgl := (KB.rx hR).lt; have hg0l := (KB.r0 hR).lt; have hgB := KB.l0 hR; have hne := Nat.ne_of_lt hgn; have hne' := hne.symm; clear hR; go_wp2_with fail; (go_light; refine bodyPost_ret (by simp (maxDischargeDepth := 3) [results, Tryz.results82, go_sem, *]; try rfl) rfl ?_; refine ⟨⟨t, y, b, c, s⟩, rfl, (smK_mk ht0 ht1 HS.out), ?_, ?_⟩; (next => ((repeat (first | with_reducible refine Cu.alloc ?_ _ | with_reducible refine Cu.setFar ?_ (by first | omega | (simp; done) | (simp; omega)) _)); exact Cu.mono (KB.cu K8.out) (by omega))); (next => (refine Chg.grown ?_; (repeat (first | with_reducible refine Chg.alloc ?_ _ | with_reducible refine Chg.setNew ?_ (by first | omega | (simp; done) | (simp; omega)) _)); exact KB.ch K8.out))))
    · have h1b : (r == 1) = false := by simpa using h1
      by_cases h2 : r = 2
      · subst h2
        clear h0 h1
        (go_wp2_with fail; refine (C_amongLc B (m + 5) _ 2 2 _ w7 _ (by rfl) K7.out.cu (by omega) (by omega) (by decide) (by omega) sm7 (by decide)).mono ?_; rintro e w8 ⟨y, rfl, hy, cu8, hb8⟩; have K8 := Lib.hid (K7.out.step (Chg.of_grown hb8) cu8); have HY := Lib.hid (sm7_of hy); clear cu8 hb8 hy; have hR := K8.out; obtain ⟨x0, x1, x2, x3, x4, f0, f1, f2, f3, f4⟩ := KB.cells hR; obtain ⟨y0, y1, y2, y3, y4, e0, e1, e2, e3, e4⟩ := KB.cells0 hR; have hgn := KB.lx hR; have hgl := (KB.rx hR).lt; have hg0l := (KB.r0 hR).lt; have hgB := KB.l0 hR; have hne := Nat.ne_of_lt hgn; have hne' := hne.symm; clear hR; go_wp2_with fail; (go_light; refine bodyPost_ret (by simp (maxDischargeDepth := 3) [results, Tryz.results82, go_sem, *]; try rfl) rfl ?_; refine ⟨⟨t, a, y, c, s⟩, rfl, (smK_mk ht0 ht1 HS.out), ?_, ?_⟩; (next => ((repeat (first | with_reducible refine Cu.alloc ?_ _ | with_reducible refine Cu.setFar ?_ (by first | omega | (simp; done) | (simp; omega)) _)); exact Cu.mono (KB.cu K8.out) (by omega))); (next => (refine Chg.grown ?_; (repeat (first | with_reducible refine Chg.alloc ?_ _ | with_reducible refine Chg.setNew ?_ (by first | omega | (simp; done) | (simp; omega)) _)); exact KB.ch K8.out))))
      · have h2b : (r == 2) = false := by simpa using h2
        by_cases h3 : r = 3
        · subst h3
          clear h0 h1 h2
          (go_wp2_with fail; refine (C_amongLc B (m + 5) _ 2 2 _ w7 _ (by rfl) K7.out.cu (by omega) (by omega) (by decide) (by omega) sm7 (by decide)).mono ?_; rintro e w8 ⟨y, rfl, hy, cu8, hb8⟩; have K8 := Lib.hid (K7.out.step (Chg.of_grown hb8) cu8); have HY := Lib.hid (sm7_of hy); clear cu8 hb8 hy; have hR := K8.out; obtain ⟨x0, x1, x2, x3, x4, f0, f1, f2, f3, f4⟩ := KB.cells hR; obtain ⟨y0, y1, y2, y3, y4, e0, e1, e2, e3, e4⟩ := KB.cells0 hR; have hgn := KB.lx hR; have hgl := (KB.rx hR).lt; have hg0l := (KB.r0 hR).lt; have hgB := KB.l0 hR; have hne := Nat.ne_of_lt hgn; have hne' := hne.symm; clear hR; go_wp2_with fail; (go_light; refine bodyPost_ret (by simp (maxDischargeDepth := 3) [results, Tryz.results82, go_sem, *]; try rfl) rfl ?_; refine ⟨⟨t, a, b, y, s⟩, rfl, (smK_mk ht0 ht1 HS.out), ?_, ?_⟩; (next => ((repeat (first | with_reducible refine Cu.alloc ?_ _ | with_reducible refine Cu.setFar ?_ (by first | omega | (simp; done) | (simp; omega)) _)); exact Cu.mono (KB.cu K8.out) (by omega))); (next => (refine Chg.grown ?_; (repeat (first | with_reducible refine Chg.alloc ?_ _ | with_reducible refine Chg.setNew ?_ (by first | omega | (simp; done) | (simp; omega)) _)); exact KB.ch K8.out))))
        · have h3b : (r == 3) = false := by simpa using h3
          by_cases h4 : r = 4
          · subst h4
            clear h0 h1 h2 h3
            go_wp2_with fail
            refine (C_ofL B (m + 5) _ 3 3 _ w7 _ (by rfl) K7.out.cu (by omega) (by omega) (by decide) (by omega) sh20 (by decide)).mono ?_; rintro e w8 ⟨y, rfl, hy, cu8, hb8⟩
            have K8 := Lib.hid (K7.out.step (Chg.of_grown hb8) cu8)
            have HY := Lib.hid hy
            clear cu8 hb8 hy
            have hR := K8.out
            obtain ⟨x0, x1, x2, x3, x4, f0, f1, f2, f3, f4⟩ := KB.cells hR; obtain ⟨y0, y1, y2, y3, y4, e0, e1, e2, e3, e4⟩ := KB.cells0 hR; have hgn := KB.lx hR; have hgl := (KB.rx hR).lt; have hg0l := (KB.r0 hR).lt; have hgB := KB.l0 hR; have hne := Nat.ne_of_lt hgn; have hne' := hne.symm
            clear hR
            go_wp2_with fail
            (go_light; refine bodyPost_ret (by simp (maxDischargeDepth := 3) [results, Tryz.results82, go_sem, *]; try rfl) rfl ?_; refine ⟨⟨t, a, b, c, y⟩, rfl, (smK_mk ht0 ht1 HY.out), ?_, ?_⟩; (next => ((repeat (first | with_reducible refine Cu.alloc ?_ _ | with_reducible refine Cu.setFar ?_ (by first | omega | (simp; done) | (simp; omega)) _)); exact Cu.mono (KB.cu K8.out) (by omega))); (next => (refine Chg.grown ?_; (repeat (first | with_reducible refine Chg.alloc ?_ _ | with_reducible refine Chg.setNew ?_ (by first | omega | (simp; done) | (simp; omega)) _)); exact KB.ch K8.out)))
          · have h4b : (r == 4) = false := by simpa using h4
            have hR := K7.out
            obtain ⟨x0, x1, x2, x3, x4, f0, f1, f2, f3, f4⟩ := KB.cells hR; obtain ⟨y0, y1, y2, y3, y4, e0, e1, e2, e3, e4⟩ := KB.cells0 hR; have hgn := KB.lx hR; have hgl := (KB.rx hR).lt; have hg0l := (KB.r0 hR).lt; have hgB := KB.l0 hR; have hne := Nat.ne_of_lt hgn; have hne' := hne.symm
            clear hR
            go_wp2_with fail
            (go_light; refine bodyPost_ret (by simp (maxDischargeDepth := 3) [results, Tryz.results82, go_sem, *]; try rfl) rfl ?_; refine ⟨⟨t, a, b, c, s⟩, rfl, (smK_mk ht0 ht1 HS.out), ?_, ?_⟩; (next => ((repeat (first | with_reducible refine Cu.alloc ?_ _ | with_reducible refine Cu.setFar ?_ (by first | omega | (simp; done) | (simp; omega)) _)); exact Cu.mono (KB.cu K7.out) (by omega))); (next => (refine Chg.grown ?_; (repeat (first | with_reducible refine Chg.alloc ?_ _ | with_reducible refine Chg.setNew ?_ (by first | omega | (simp; done) | (simp; omega)) _)); exact KB.ch K7.out)))
end Go.Proofs.YtmhelhjjadoiaaaGreatDoor

/- Lists of looks that are drawn, and a record. No condition but those stated. -/
namespace Go.Proofs.YtmhelhjjadoiaaaGreatDoor
set_option linter.unusedVariables false
set_option linter.unusedSimpArgs false
open Go.RowKit Go.Sort
/-- What the drawing of a list of looks keeps. -/
structure LL (B m : Nat) (w W : World) (v : Value) (l : List Lk) : Prop where
  cu : Cu W B m
  ch : Chg B (B + 1) w W
  ol : OL w.heap.size W v l
  lt : B < w.heap.size
  sz : ∀ x ∈ l, smK x = true
theorem LL.step {B m m' : Nat} {w W W' : World} {v : Value} {l : List Lk} (h : LL B m w W v l) (hc : Chg B (B + 1) W W') (hcu : Cu W' B m') : LL B m' w W' v l := ⟨hcu, h.ch.trans hc, h.ol.chg hc h.lt, h.lt, h.sz⟩
theorem LL.mono {B m m' : Nat} {w W : World} {v : Value} {l : List Lk} (h : LL B m w W v l) (hm : m ≤ m') : LL B m' w W v l := ⟨h.cu.mono hm, h.ch, h.ol, h.lt, h.sz⟩
theorem LL.alloc {B m : Nat} {w W : World} {v : Value} {l : List Lk} (h : LL B m w W v l) (o : Obj) : LL B m w (W.alloc o) v l := h.step ((Chg.refl _ _ _).alloc o) (h.cu.alloc o)
theorem LL.grow {B m : Nat} {w W W' : World} {v v' : Value} {l : List Lk} {y : Lk} (h : LL B m w W v l) (hg : W.grownBy W' v.ownBlock) (ho : OL w.heap.size W' v' (l ++ [y])) (hy : smK y = true) : LL B m w W' v' (l ++ [y]) := by
  have hlt := h.ol.lt
  have h3 := h.lt
  have hc : Chg w.heap.size (max w.heap.size W.heap.size) W W' := ⟨hg.os, hg.tape, hg.output, hg.size, fun k hk hr => hg.block k hk (fun e => by have := (hlt k e.symm).1; omega)⟩
  refine ⟨h.cu.chg hc h3, ⟨hc.os.trans h.ch.os, hc.tape.trans h.ch.tape, hc.output.trans h.ch.output, Nat.le_trans h.ch.size hc.size, fun k hk hr => ?_⟩, ho, h3, fun x hx => ?_⟩
  · exact (hc.block k (Nat.lt_of_lt_of_le hk h.ch.size) (.inl hk)).trans (h.ch.block k hk hr)
  · rcases List.mem_append.1 hx with hx | hx
    · exact h.sz x hx
    · rw [List.mem_singleton.1 hx]; exact hy
theorem rk_lit (w : World) (x : Lk) (T : TypeId) : RK (w.alloc (.cells #[.int .i64 x.tick, .int .i64 x.who, .int .i64 x.rid, .int .i64 x.kind, .string x.why] T)) (some ⟨w.heap.size, 0, none⟩) [x].length (atK [x]) :=
  RK.one (by simp) (lk_lit w x T)
theorem C_record17 (B m : Nat) (w : World) (hcu : Cu w B m) (hm : m ≤ 900000) :
    Calls Tryz.prog 79 #[.pointer (some ⟨B, 0, none⟩)] w fun e w' => ∃ x : Int, e = .returned (.int .i64 x) ∧ sm7 x = true ∧ Cu w' B (m + 2) ∧ w.grownBy w' (some B) := by
  have hlt := hcu.lt
  obtain ⟨g, hg⟩ : ∃ g, g = w.heap.size := ⟨_, rfl⟩
  obtain ⟨w1, hw1⟩ : ∃ w1, w1 = w.alloc (.cells #[.int .i64 1, .int .i64 1, .int .i64 2, .int .i64 999, .int .i64 50, .int .i64 0, .int .i64 1000] 3) := ⟨_, rfl⟩
  have rg : w1.rowIs g 3 7 (fun j => (#[.int .i64 1, .int .i64 1, .int .i64 2, .int .i64 999, .int .i64 50, .int .i64 0, .int .i64 1000] : Array Value).getD j undef) := by rw [hw1, hg]; exact row_lit w _ _
  have cu1 : Cu w1 B m := by rw [hw1]; exact hcu.alloc _
  have ch1 : Chg B (B + 1) w w1 := by rw [hw1]; exact (Chg.refl _ _ _).alloc _
  have hgB : g ≠ B := by omega
  have HW := Lib.hid hw1.symm
  have HG := Lib.hid hg.symm
  clear hw1 hg hcu
  go_enter Tryz.func79, Tryz.ntmps79
  go_wp2_with fail
  rw [HW.out, HG.out]
  refine (C_pick B m 24 w1 cu1 (by omega) (by omega) (by omega)).mono ?_; rintro e w2 ⟨a, rfl, ⟨ha0, ha1⟩, cu2, hb2⟩
  have R2 := Lib.hid (rg.of_block (hb2.block g rg.lt (by intro e; injection e with e; exact hgB e)))
  have ch2 := Lib.hid (ch1.trans (Chg.of_grown hb2))
  clear hb2 rg cu1 ch1
  obtain ⟨q, hq⟩ : ∃ q : Nat, (q : Int) = a / 11 := ⟨(a / 11).toNat, by omega⟩
  have hq2 : q ≤ 2 := by omega
  have hd1 : (0 : Int) ≤ 5 + a / 11 := by omega
  have hd2 : 5 + a / 11 ≤ 7 := by omega
  have hd3 : (5 + a / 11).toNat = 5 + q := by omega
  go_wp2_with fail
  refine (C_amongR B (m + 1) #[.int .i64 1, .int .i64 1, .int .i64 2, .int .i64 999, .int .i64 50, .int .i64 0, .int .i64 1000] (5 + q) _ g w2 3 R2.out hgB cu2 (by omega) (by omega) (by simp; omega) (by omega) sm7 (by decide)).mono ?_; rintro e w3 ⟨x, rfl, hx, cu3, hb3⟩
  have HX := Lib.hid hx
  have ch3 := Lib.hid (ch2.out.trans (Chg.of_grown hb3))
  clear hx hd1 hd2 hd3 hq cu2 R2
  go_wp2_with fail
  go_ret
  exact ⟨x, rfl, HX.out, cu3, ch3.out.grown⟩
def lenK : Value → Nat
  | .slice _ n _ => n
  | _ => 0
set_option maxRecDepth 100000 in
set_option maxHeartbeats 8000000 in
theorem C_looks (B m : Nat) (w : World) (hcu : Cu w B m) (hm : m ≤ 700000) :
    Calls Tryz.prog 48 #[.pointer (some ⟨B, 0, none⟩)] w fun e w' => ∃ (v : Value) (l : List Lk), e = .returned v ∧ l.length ≤ 16 ∧ LL B (m + 200) w w' v l := by
  have hlt := hcu.lt
  obtain ⟨w0, hw0⟩ : ∃ w0, w0 = w.alloc (.cells #[] 37) := ⟨_, rfl⟩
  have L0 : LL B m w w0 (.slice (some ⟨w.heap.size, 0, none⟩) 0 0) [] := by
    rw [hw0]
    exact ⟨hcu.alloc _, (Chg.refl _ _ _).alloc _, OL.emptyAt rfl (Nat.le_refl _), hlt, fun x hx => by cases hx⟩
  have L0 := Lib.hid L0
  have HZ := Lib.hid (show w0.heap.size = w.heap.size + 1 by rw [hw0]; simp)
  have HW := Lib.hid hw0.symm
  clear hw0 hcu
  go_enter Tryz.func48, Tryz.ntmps48
  go_wp2_with fail
  rw [HW.out]
  refine (C_amongLc B m _ 3 3 _ w0 _ HZ.out L0.out.cu (by omega) (by omega) (by decide) (by omega) (fun x => decide (0 ≤ x) && decide (x ≤ 1000000)) (by decide)).mono ?_; rintro e w1 ⟨t, rfl, ht, cu1, hb1⟩
  have L1 := Lib.hid (L0.out.step (Chg.of_grown hb1) cu1)
  rw [Bool.and_eq_true, decide_eq_true_eq, decide_eq_true_eq] at ht
  obtain ⟨ht0, ht1⟩ := ht
  clear cu1 hb1 L0 HZ HW
  go_wp2_with fail
  refine (C_pick B _ 11 w1 L1.out.cu (by omega) (by omega) (by omega)).mono ?_; rintro e w2 ⟨n0, rfl, ⟨hn0, hn1⟩, cu2, hb2⟩
  have L2 := Lib.hid (L1.out.step (Chg.of_grown hb2) cu2)
  clear cu2 hb2 L1
  go_wp2
  go_loopw [3, 4, 5] (fun o tk i wr => ∃ (k : Nat) (l : List Lk) (t : Int), k ≤ 10 ∧ l.length + k ≤ 10 ∧ i = .int .i64 k ∧ tk = .int .i64 t ∧ -1100 + 110 * k ≤ t ∧ t + 110 * k ≤ 1001100 ∧ LL B (m + 2 + 10 * (10 - k)) w wr o l) (fun _ _ i _ => (intOf i).toNat)
  case atStart => exact ⟨n0.toNat, [], t, by omega, by simp; omega, by rw [Int.toNat_of_nonneg hn0], rfl, by omega, by omega, L2.out.mono (by omega)⟩
  case round =>
    clear L2 hn0 hn1 ht0 ht1
    obtain ⟨k, l, t, hk, hlk, rfl, rfl, ht0, ht1, hL⟩ := hrel
    obtain ⟨A, cap, rfl⟩ := hL.ol.form
    obtain ⟨n, hn⟩ : ∃ n, l.length = n := ⟨_, rfl⟩
    rw [hn] at hL hlk ⊢
    have HN := Lib.hid hn
    have HL := Lib.hid hL
    clear hL hn
    by_cases hlt : 0 < k
    · have hlt2 : (0 : Int) < (k : Int) := by omega
      have hk1 : Value.int .i64 ((k : Int) - 1) = .int .i64 ((k - 1 : Nat) : Int) := by rw [show ((k - 1 : Nat) : Int) = (k : Int) - 1 by omega]
      have HK1 := Lib.hid hk1
      clear hk1
      go_wp2_with fail
      refine (C_look B _ t _ HL.out.cu (by omega) (by omega) (by omega)).mono ?_; rintro e w3 ⟨x, rfl, hx, cu3, hb3⟩
      have L3 := Lib.hid (HL.out.step (Chg.of_grown hb3) cu3)
      have HX := Lib.hid hx
      clear cu3 hb3 HL hx
      have HO := Lib.hid (L3.out.alloc (.cells #[.int .i64 x.tick, .int .i64 x.who, .int .i64 x.rid, .int .i64 x.kind, .string x.why] 37))
      have HRK := Lib.hid (rk_lit w3 x 37)
      have hz3 := L3.out.ch.size
      have hpl : l.length + 1 ≤ 1099511627776 := by rw [HN.out]; omega
      go_wp2_with (at_builtin; refine wp_appL _ rfl (.tmp 17) (.tmp 21) rfl w.heap.size _ l rfl HO.out.ol (some ⟨w3.heap.size, 0, none⟩) 1 1 [x] rfl rfl HRK.out hpl (by simp; omega) ?_; intro v4 w4 ho4 hg4 _; have L4 := Lib.hid (LL.grow HO.out hg4 ho4 HX.out); obtain ⟨A4, c4, rfl⟩ := OL.formN HN.out ho4; clear ho4 hg4)
      refine (C_amongLc B _ _ 4 4 _ w4 _ (by rfl) L4.out.cu (by omega) (by omega) (by decide) (by omega) (fun x => decide (0 ≤ x) && decide (x ≤ 100)) (by decide)).mono ?_; rintro e w5 ⟨d, rfl, hd, cu5, hb5⟩
      have L5 := Lib.hid (L4.out.step (Chg.of_grown hb5) cu5)
      rw [Bool.and_eq_true, decide_eq_true_eq, decide_eq_true_eq] at hd
      obtain ⟨hd0, hd1⟩ := hd
      clear cu5 hb5 L4 HO L3 HRK
      go_wp2_with fail
      refine (C_pick B _ 120 w5 L5.out.cu (by omega) (by omega) (by omega)).mono ?_; rintro e w6 ⟨r, rfl, ⟨hr0, hr1⟩, cu6, hb6⟩
      have L6 := Lib.hid (L5.out.step (Chg.of_grown hb6) cu6)
      have hq0 : 0 ≤ r / 119 := by omega
      have hq1 : r / 119 ≤ 1 := by omega
      clear cu6 hb6 L5
      go_wp2_with fail
      go_roundw
      case rel => exact ⟨k - 1, l ++ [x], _, by omega, by simp; rw [HN.out]; omega, HK1.out, rfl, by omega, by omega, L6.out.mono (by omega)⟩
      case measure => simp [intOf]; omega
    · obtain rfl : k = 0 := by omega
      have hz : ¬ (0 : Int) < ((0 : Nat) : Int) := by omega
      clear ht0 ht1
      go_wp2_with fail
      refine (C_one B _ 24 _ HL.out.cu (by omega) (by omega) (by omega)).mono ?_; rintro e w7 ⟨b, rfl, cu7, hb7⟩
      have L7 := Lib.hid (HL.out.step (Chg.of_grown hb7) cu7)
      clear cu7 hb7 HL
      cases b
      · go_wp2_with fail
        go_ret
        exact ⟨_, l, rfl, by rw [HN.out]; omega, L7.out.mono (by omega)⟩
      · have L8 : LL B (m + 103) w (w7.alloc (.cells #[] 37)) (.slice (some ⟨w7.heap.size, 0, none⟩) 0 0) [] := by
          have h2 := L7.out.alloc (.cells #[] 37)
          exact ⟨h2.cu.mono (by omega), h2.ch, OL.emptyAt rfl L7.out.ch.size, h2.lt, fun x hx => by cases hx⟩
        have L8 := Lib.hid L8
        clear L7 HN hlk
        go_wp2
        go_loopw [3, 6] (fun o i wr => ∃ l : List Lk, l.length ≤ 16 ∧ i = .int .i64 (l.length : Nat) ∧ LL B (m + 103 + l.length) w wr o l) (fun _ i _ => 17 - (intOf i).toNat)
        case atStart => exact ⟨[], by simp, rfl, L8.out⟩
        case round =>
          clear L8
          obtain ⟨l, hl, rfl, hL⟩ := hrel
          obtain ⟨A, cap, rfl⟩ := hL.ol.form
          obtain ⟨n, hn⟩ : ∃ n, l.length = n := ⟨_, rfl⟩
          rw [hn] at hL hl ⊢
          have HN := Lib.hid hn
          have HL := Lib.hid hL
          clear hL hn
          go_wp2_with fail
          refine (C_pick B _ 2 _ HL.out.cu (by omega) (by omega) (by omega)).mono ?_; rintro e w8 ⟨a, rfl, ⟨ha0, ha1⟩, cu8, hb8⟩
          have L8 := Lib.hid (HL.out.step (Chg.of_grown hb8) cu8)
          clear cu8 hb8 HL
          by_cases hlt : (n : Int) < 15 + a
          · have hz8 := L8.out.ch.size
            have hpl : l.length + 1 ≤ 1099511627776 := by rw [HN.out]; omega
            obtain ⟨x, hx⟩ : ∃ x : Lk, x = ⟨3 * (n : Int), 1, 1 + (n : Int) % 4, (n : Int) % 3, ⟨#[97, 117, 100, 105, 116]⟩⟩ := ⟨_, rfl⟩
            have HO := Lib.hid (L8.out.alloc (.cells #[.int .i64 (3 * (n : Int)), .int .i64 1, .int .i64 (1 + (n : Int) % 4), .int .i64 ((n : Int) % 3), .string ⟨#[97, 117, 100, 105, 116]⟩] 37))
            have HRK := Lib.hid (rk_lit w8 ⟨3 * (n : Int), 1, 1 + (n : Int) % 4, (n : Int) % 3, ⟨#[97, 117, 100, 105, 116]⟩⟩ 37)
            have HS := Lib.hid (show smK ⟨3 * (n : Int), 1, 1 + (n : Int) % 4, (n : Int) % 3, ⟨#[97, 117, 100, 105, 116]⟩⟩ = true from smK_mk (by show -3000000 ≤ 3 * (n : Int); omega) (by show 3 * (n : Int) ≤ 3000000; omega) (by rfl))
            clear hx
            go_wp2_with (at_builtin; refine wp_appL _ rfl (.tmp 43) (.tmp 52) rfl w.heap.size _ l rfl HO.out.ol (some ⟨w8.heap.size, 0, none⟩) 1 1 [_] rfl rfl HRK.out hpl (by simp; omega) ?_; intro v4 w4 ho4 hg4 _; have L4 := Lib.hid (LL.grow HO.out hg4 ho4 HS.out); obtain ⟨A4, c4, rfl⟩ := OL.formN HN.out ho4; clear ho4 hg4)
            go_roundw
            case rel => exact ⟨l ++ [⟨3 * (n : Int), 1, 1 + (n : Int) % 4, (n : Int) % 3, ⟨#[97, 117, 100, 105, 116]⟩⟩], by simp; rw [HN.out]; omega, by rw [List.length_append, HN.out]; go_num, L4.out.mono (by simp; rw [HN.out]; omega)⟩
            case measure => simp [intOf]; omega
          · go_wp2_with fail
            go_ret
            exact ⟨_, l, rfl, by rw [HN.out]; exact hl, L8.out.mono (by omega)⟩
end Go.Proofs.YtmhelhjjadoiaaaGreatDoor

/- What the law FnLooks draws. No condition but those stated. -/
namespace Go.Proofs.YtmhelhjjadoiaaaGreatDoor
set_option linter.unusedVariables false
set_option linter.unusedSimpArgs false
open Go.RowKit Go.Sort
/-- A drawn list of looks. -/
def DK (w : World) (v : Value) (n : Nat) (R : Nat → Lk) : Prop := LKs w v n R ∧ n ≤ 16 ∧ ∀ j, smK (R j) = true
theorem DK.below {w w' : World} {v : Value} {n : Nat} {R : Nat → Lk} (hb : Below w.heap.size w w') (h : DK w v n R) : DK w' v n R := ⟨h.1.below hb, h.2⟩
theorem DK.s63 {w : World} {v : Value} {n : Nat} {R : Nat → Lk} (h : DK w v n R) : ∀ j, j < n → (R j).why.size ≤ 9223372036854775807 := fun j _ => by have := (smK_of (h.2.2 j)).2; omega
theorem DK.form {w : World} {v : Value} {n : Nat} {R : Nat → Lk} (h : DK w v n R) : ∃ A cap, v = .slice A n cap := by obtain ⟨⟨A, cap, e, _⟩, _⟩ := h; exact ⟨A, cap, e⟩
theorem smK_at {l : List Lk} (h : ∀ x ∈ l, smK x = true) (j : Nat) : smK (atK l j) = true := by
  by_cases hj : j < l.length
  · exact h _ (atK_mem hj)
  · unfold atK
    rw [List.getD_eq_getElem?_getD, List.getElem?_eq_none (by omega)]; rfl
theorem LL.dk {B m : Nat} {w W : World} {v : Value} {l : List Lk} (h : LL B m w W v l) (hl : l.length ≤ 16) : DK W v l.length (atK l) := ⟨h.ol.lks, hl, smK_at h.sz⟩
set_option maxHeartbeats 2000000 in
theorem C_DrawIsAccount (v : Value) (n : Nat) (w : World) (h : SU w v n) :
    Calls Tryz.prog 67 #[v] w fun e w' => ∃ (u : Value) (m : Nat) (R : Nat → Lk), e = .returned u ∧ DK w' u m R ∧ Below w.heap.size w w' := by
  obtain ⟨A, cap, rfl⟩ := h.form
  obtain ⟨B, hB⟩ : ∃ B, B = w.heap.size := ⟨_, rfl⟩
  obtain ⟨w1, hw1⟩ : ∃ w1, w1 = w.alloc (.cells #[.slice A n cap, .int .i64 0, .int .u64 0] 71) := ⟨_, rfl⟩
  have b1 : Below w.heap.size w w1 := by rw [hw1]; (repeat (first | with_reducible exact Below.refl _ _ | with_reducible exact below_regrown _ _ _ | with_reducible refine bel_step0 (by assumption) ?_ | with_reducible refine bel_alloc0 ?_ _ | with_reducible refine bel_regrown0 ?_ _ _ | with_reducible refine bel_regrown ?_ (by first | omega | (simp; done) | (simp; omega)) _ _ | with_reducible refine below_drewN ?_ _ | with_reducible refine Below.drew ?_ | with_reducible refine Below.alloc ?_ (by first | omega | (simp; done) | (simp; omega)) _ | with_reducible refine Below.setCell ?_ (by first | omega | (simp; done) | (simp; omega)) _ | with_reducible refine bel_step (by assumption) (by first | omega | (simp; done) | (simp; omega)) ?_ | with_reducible refine bel_grown (by assumption) (by first | omega | (simp; done) | (simp; omega)) (by first | omega | (simp; done) | (simp; omega)) ?_))
  have cu1 : Cu w1 B 0 := by rw [hw1, hB]; exact Cu.start h _
  have HW := Lib.hid hw1.symm
  have HB := Lib.hid hB.symm
  have hBw : w.heap.size ≤ B := by omega
  clear hw1 hB h
  go_enter Tryz.func67, Tryz.ntmps67
  go_wp2_with fail
  rw [HW.out, HB.out]
  refine (C_looks B 0 w1 cu1 (by omega)).mono ?_; rintro e w2 ⟨u, l, rfl, hl, hL⟩
  obtain ⟨m, hm⟩ : ∃ m, l.length = m := ⟨_, rfl⟩
  obtain ⟨UA, uc, rfl⟩ : ∃ A c, u = .slice A m c := by obtain ⟨A, c, e⟩ := hL.ol.form; exact ⟨A, c, by rw [e, hm]⟩
  have HM := Lib.hid hm
  have HL := Lib.hid hL
  clear cu1 HW hL hm HB
  go_wp2_with fail
  go_ret
  exact ⟨_, m, atK l, rfl, by rw [← HM.out]; rw [← HM.out] at HL; exact HL.out.dk hl, bel_chg HL.out.ch hBw b1⟩
set_option maxHeartbeats 2000000 in
theorem C_DrawWhoSaw (v : Value) (n : Nat) (w : World) (h : SU w v n) :
    Calls Tryz.prog 39 #[v] w fun e w' => ∃ (u : Value) (m : Nat) (R : Nat → Lk) (x : Int), e = .returned (.tuple #[u, .int .i64 x]) ∧ DK w' u m R ∧ sm7 x = true ∧ Below w.heap.size w w' := by
  obtain ⟨A, cap, rfl⟩ := h.form
  obtain ⟨B, hB⟩ : ∃ B, B = w.heap.size := ⟨_, rfl⟩
  obtain ⟨w1, hw1⟩ : ∃ w1, w1 = w.alloc (.cells #[.slice A n cap, .int .i64 0, .int .u64 0] 71) := ⟨_, rfl⟩
  have b1 : Below w.heap.size w w1 := by rw [hw1]; (repeat (first | with_reducible exact Below.refl _ _ | with_reducible exact below_regrown _ _ _ | with_reducible refine bel_step0 (by assumption) ?_ | with_reducible refine bel_alloc0 ?_ _ | with_reducible refine bel_regrown0 ?_ _ _ | with_reducible refine bel_regrown ?_ (by first | omega | (simp; done) | (simp; omega)) _ _ | with_reducible refine below_drewN ?_ _ | with_reducible refine Below.drew ?_ | with_reducible refine Below.alloc ?_ (by first | omega | (simp; done) | (simp; omega)) _ | with_reducible refine Below.setCell ?_ (by first | omega | (simp; done) | (simp; omega)) _ | with_reducible refine bel_step (by assumption) (by first | omega | (simp; done) | (simp; omega)) ?_ | with_reducible refine bel_grown (by assumption) (by first | omega | (simp; done) | (simp; omega)) (by first | omega | (simp; done) | (simp; omega)) ?_))
  have cu1 : Cu w1 B 0 := by rw [hw1, hB]; exact Cu.start h _
  have HW := Lib.hid hw1.symm
  have HB := Lib.hid hB.symm
  have hBw : w.heap.size ≤ B := by omega
  clear hw1 hB h
  go_enter Tryz.func39, Tryz.ntmps39
  go_wp2_with fail
  rw [HW.out, HB.out]
  refine (C_looks B 0 w1 cu1 (by omega)).mono ?_; rintro e w2 ⟨u, l, rfl, hl, hL⟩
  obtain ⟨m, hm⟩ : ∃ m, l.length = m := ⟨_, rfl⟩
  obtain ⟨UA, uc, rfl⟩ : ∃ A c, u = .slice A m c := by obtain ⟨A, c, e⟩ := hL.ol.form; exact ⟨A, c, by rw [e, hm]⟩
  have HM := Lib.hid hm
  have HL := Lib.hid hL
  clear cu1 HW hL hm HB
  go_wp2_with fail
  refine (C_record17 B _ w2 HL.out.cu (by omega)).mono ?_; rintro e w3 ⟨x, rfl, hx, cu3, hb3⟩
  have L3 := Lib.hid (HL.out.step (Chg.of_grown hb3) cu3)
  have HX := Lib.hid hx
  clear HL cu3 hb3 hx
  go_wp2_with fail
  go_ret2
  exact ⟨_, m, atK l, x, rfl, by rw [← HM.out]; rw [← HM.out] at L3; exact L3.out.dk hl, HX.out, bel_chg L3.out.ch hBw b1⟩
theorem C_DrawLastChange (v : Value) (n : Nat) (w : World) (h : SU w v n) :
    Calls Tryz.prog 6 #[v] w fun e w' => ∃ (u : Value) (m : Nat) (R : Nat → Lk) (x : Int), e = .returned (.tuple #[u, .int .i64 x]) ∧ DK w' u m R ∧ sm7 x = true ∧ Below w.heap.size w w' := by
  go_enter Tryz.func6, Tryz.ntmps6
  go_wp2_with fail
  refine (C_DrawWhoSaw v n w h).mono ?_; rintro e w2 ⟨u, m, R, x, rfl, hd, hx, hb⟩
  have HX := Lib.hid (And.intro hx hd)
  clear hx hd
  go_wp2_with fail
  go_ret2
  exact ⟨_, m, R, x, rfl, HX.out.2, HX.out.1, hb⟩
set_option maxHeartbeats 4000000 in
theorem C_DrawLongestBurst (v : Value) (n : Nat) (w : World) (h : SU w v n) :
    Calls Tryz.prog 15 #[v] w fun e w' => ∃ (u : Value) (m : Nat) (R : Nat → Lk) (x y : Int), e = .returned (.tuple #[u, .int .i64 x, .int .i64 y]) ∧ DK w' u m R ∧ sm7 x = true ∧ sm7 y = true ∧ Below w.heap.size w w' := by
  obtain ⟨A, cap, rfl⟩ := h.form
  obtain ⟨B, hB⟩ : ∃ B, B = w.heap.size := ⟨_, rfl⟩
  obtain ⟨w1, hw1⟩ : ∃ w1, w1 = w.alloc (.cells #[.slice A n cap, .int .i64 0, .int .u64 0] 71) := ⟨_, rfl⟩
  have b1 : Below w.heap.size w w1 := by rw [hw1]; (repeat (first | with_reducible exact Below.refl _ _ | with_reducible exact below_regrown _ _ _ | with_reducible refine bel_step0 (by assumption) ?_ | with_reducible refine bel_alloc0 ?_ _ | with_reducible refine bel_regrown0 ?_ _ _ | with_reducible refine bel_regrown ?_ (by first | omega | (simp; done) | (simp; omega)) _ _ | with_reducible refine below_drewN ?_ _ | with_reducible refine Below.drew ?_ | with_reducible refine Below.alloc ?_ (by first | omega | (simp; done) | (simp; omega)) _ | with_reducible refine Below.setCell ?_ (by first | omega | (simp; done) | (simp; omega)) _ | with_reducible refine bel_step (by assumption) (by first | omega | (simp; done) | (simp; omega)) ?_ | with_reducible refine bel_grown (by assumption) (by first | omega | (simp; done) | (simp; omega)) (by first | omega | (simp; done) | (simp; omega)) ?_))
  have cu1 : Cu w1 B 0 := by rw [hw1, hB]; exact Cu.start h _
  have HW := Lib.hid hw1.symm
  have HB := Lib.hid hB.symm
  have hBw : w.heap.size ≤ B := by omega
  clear hw1 hB h
  go_enter Tryz.func15, Tryz.ntmps15
  go_wp2_with fail
  rw [HW.out, HB.out]
  refine (C_looks B 0 w1 cu1 (by omega)).mono ?_; rintro e w2 ⟨u, l, rfl, hl, hL⟩
  obtain ⟨m, hm⟩ : ∃ m, l.length = m := ⟨_, rfl⟩
  obtain ⟨UA, uc, rfl⟩ : ∃ A c, u = .slice A m c := by obtain ⟨A, c, e⟩ := hL.ol.form; exact ⟨A, c, by rw [e, hm]⟩
  have HM := Lib.hid hm
  have HL := Lib.hid hL
  clear cu1 HW hL hm HB
  have L2 := HL
  clear HL
  go_wp2_with fail
  obtain ⟨g2, hg⟩ : ∃ g, g = w2.heap.size := ⟨_, rfl⟩
  obtain ⟨wa2, hwa⟩ : ∃ wa, wa = w2.alloc (.cells #[.int .i64 1, .int .i64 1, .int .i64 2, .int .i64 99, .int .i64 50, .int .i64 0, .int .i64 100] 3) := ⟨_, rfl⟩
  have rg : wa2.rowIs g2 3 7 (fun j => (#[.int .i64 1, .int .i64 1, .int .i64 2, .int .i64 99, .int .i64 50, .int .i64 0, .int .i64 100] : Array Value).getD j undef) := by rw [hwa, hg]; exact row_lit w2 _ _
  have La2 := Lib.hid (show LL B _ w1 wa2 _ l by rw [hwa]; exact L2.out.alloc _)
  have hgB2 : g2 ≠ B := by have := L2.out.cu.lt; omega
  have HWA := Lib.hid hwa.symm
  have HG := Lib.hid hg.symm
  have RG2 := Lib.hid rg
  clear hwa hg rg L2
  rw [HWA.out, HG.out]
  clear HWA HG
  refine (C_pick B _ 24 wa2 La2.out.cu (by omega) (by omega) (by omega)).mono ?_; rintro e wb2 ⟨a, rfl, ⟨ha0, ha1⟩, cub, hbb⟩
  have R2 := Lib.hid (RG2.out.of_block (hbb.block g2 RG2.out.lt (by intro e; injection e with e; exact hgB2 e)))
  have Lb2 := Lib.hid (La2.out.step (Chg.of_grown hbb) cub)
  clear hbb cub La2 RG2
  obtain ⟨q, hq⟩ : ∃ q : Nat, (q : Int) = a / 11 := ⟨(a / 11).toNat, by omega⟩
  have hq2 : q ≤ 2 := by omega
  have hd1 : (0 : Int) ≤ 5 + a / 11 := by omega
  have hd2 : 5 + a / 11 ≤ 7 := by omega
  have hd3 : (5 + a / 11).toNat = 5 + q := by omega
  go_wp2_with fail
  refine (C_amongR B _ #[.int .i64 1, .int .i64 1, .int .i64 2, .int .i64 99, .int .i64 50, .int .i64 0, .int .i64 100] (5 + q) _ g2 wb2 3 R2.out hgB2 Lb2.out.cu (by omega) (by omega) (by simp; omega) (by omega) sm7 (by decide)).mono ?_; rintro e wc2 ⟨x2, rfl, hx, cuc, hbc⟩
  have HX2 := Lib.hid hx
  have Lc2 := Lib.hid (Lb2.out.step (Chg.of_grown hbc) cuc)
  clear hx hd1 hd2 hd3 hq cuc hbc R2 Lb2 hq2 ha0 ha1
  obtain ⟨w3, hw3⟩ : ∃ w3, w3 = wc2 := ⟨_, rfl⟩
  rw [← hw3] at Lc2 ⊢
  have L3 := Lc2
  clear Lc2 hw3
  go_wp2_with fail
  obtain ⟨g3, hg⟩ : ∃ g, g = w3.heap.size := ⟨_, rfl⟩
  obtain ⟨wa3, hwa⟩ : ∃ wa, wa = w3.alloc (.cells #[.int .i64 1, .int .i64 5, .int .i64 6, .int .i64 12, .int .i64 1000000, .int .i64 0, .int .i64 1000001] 3) := ⟨_, rfl⟩
  have rg : wa3.rowIs g3 3 7 (fun j => (#[.int .i64 1, .int .i64 5, .int .i64 6, .int .i64 12, .int .i64 1000000, .int .i64 0, .int .i64 1000001] : Array Value).getD j undef) := by rw [hwa, hg]; exact row_lit w3 _ _
  have La3 := Lib.hid (show LL B _ w1 wa3 _ l by rw [hwa]; exact L3.out.alloc _)
  have hgB3 : g3 ≠ B := by have := L3.out.cu.lt; omega
  have HWA := Lib.hid hwa.symm
  have HG := Lib.hid hg.symm
  have RG3 := Lib.hid rg
  clear hwa hg rg L3
  rw [HWA.out, HG.out]
  clear HWA HG
  refine (C_pick B _ 24 wa3 La3.out.cu (by omega) (by omega) (by omega)).mono ?_; rintro e wb3 ⟨a, rfl, ⟨ha0, ha1⟩, cub, hbb⟩
  have R3 := Lib.hid (RG3.out.of_block (hbb.block g3 RG3.out.lt (by intro e; injection e with e; exact hgB3 e)))
  have Lb3 := Lib.hid (La3.out.step (Chg.of_grown hbb) cub)
  clear hbb cub La3 RG3
  obtain ⟨q, hq⟩ : ∃ q : Nat, (q : Int) = a / 11 := ⟨(a / 11).toNat, by omega⟩
  have hq2 : q ≤ 2 := by omega
  have hd1 : (0 : Int) ≤ 5 + a / 11 := by omega
  have hd2 : 5 + a / 11 ≤ 7 := by omega
  have hd3 : (5 + a / 11).toNat = 5 + q := by omega
  go_wp2_with fail
  refine (C_amongR B _ #[.int .i64 1, .int .i64 5, .int .i64 6, .int .i64 12, .int .i64 1000000, .int .i64 0, .int .i64 1000001] (5 + q) _ g3 wb3 3 R3.out hgB3 Lb3.out.cu (by omega) (by omega) (by simp; omega) (by omega) sm7 (by decide)).mono ?_; rintro e wc3 ⟨x3, rfl, hx, cuc, hbc⟩
  have HX3 := Lib.hid hx
  have Lc3 := Lib.hid (Lb3.out.step (Chg.of_grown hbc) cuc)
  clear hx hd1 hd2 hd3 hq cuc hbc R3 Lb3 hq2 ha0 ha1
  go_wp2_with fail
  go_ret3
  exact ⟨_, m, atK l, x2, x3, rfl, by rw [← HM.out]; rw [← HM.out] at Lc3; exact Lc3.out.dk hl, HX2.out, HX3.out, bel_chg Lc3.out.ch hBw b1⟩
set_option maxHeartbeats 2000000 in
theorem C_DrawIsLook (v : Value) (n : Nat) (w : World) (h : SU w v n) :
    Calls Tryz.prog 55 #[v] w fun e w' => ∃ x : Lk, e = .returned (.agg #[.int .i64 (x).tick, .int .i64 (x).who, .int .i64 (x).rid, .int .i64 (x).kind, .string (x).why]) ∧ smK x = true ∧ Below w.heap.size w w' := by
  obtain ⟨A, cap, rfl⟩ := h.form
  obtain ⟨w0, hw0⟩ : ∃ w0, w0 = w.alloc (.cells #[.int .i64 0, .int .i64 0, .int .i64 0, .int .i64 0, .string (⟨#[]⟩ : ByteArray)] 37) := ⟨_, rfl⟩
  obtain ⟨B, hB⟩ : ∃ B, B = w.heap.size + 1 := ⟨_, rfl⟩
  obtain ⟨w1, hw1⟩ : ∃ w1, w1 = w0.alloc (.cells #[.slice A n cap, .int .i64 0, .int .u64 0] 71) := ⟨_, rfl⟩
  have b0 : Below w.heap.size w w0 := by rw [hw0]; (repeat (first | with_reducible exact Below.refl _ _ | with_reducible exact below_regrown _ _ _ | with_reducible refine bel_step0 (by assumption) ?_ | with_reducible refine bel_alloc0 ?_ _ | with_reducible refine bel_regrown0 ?_ _ _ | with_reducible refine bel_regrown ?_ (by first | omega | (simp; done) | (simp; omega)) _ _ | with_reducible refine below_drewN ?_ _ | with_reducible refine Below.drew ?_ | with_reducible refine Below.alloc ?_ (by first | omega | (simp; done) | (simp; omega)) _ | with_reducible refine Below.setCell ?_ (by first | omega | (simp; done) | (simp; omega)) _ | with_reducible refine bel_step (by assumption) (by first | omega | (simp; done) | (simp; omega)) ?_ | with_reducible refine bel_grown (by assumption) (by first | omega | (simp; done) | (simp; omega)) (by first | omega | (simp; done) | (simp; omega)) ?_))
  have z0 : w0.heap.size = B := by rw [hw0, hB]; simp
  have b1 : Below w.heap.size w w1 := by rw [hw1]; exact bel_alloc0 b0 _
  have cu1 : Cu w1 B 0 := by rw [hw1, ← z0]; exact Cu.start (h.below b0) _
  have r1 : w1.rowIs w.heap.size 37 5 (cK (⟨0, 0, 0, 0, (⟨#[]⟩ : ByteArray)⟩ : Lk)) := by rw [hw1, hw0]; exact row_alloc (row5_alloc w _ (⟨0, 0, 0, 0, (⟨#[]⟩ : ByteArray)⟩ : Lk)) _
  have HW := Lib.hid (show (w.alloc (.cells #[.int .i64 0, .int .i64 0, .int .i64 0, .int .i64 0, .string (⟨#[]⟩ : ByteArray)] 37)).alloc (.cells #[.slice A n cap, .int .i64 0, .int .u64 0] 71) = w1 by rw [hw1, hw0])
  have z1 : w1.heap.size = B + 1 := by rw [hw1, World.size_alloc, z0]
  have HZ := Lib.hid z1
  have HB := Lib.hid hB.symm
  have HR := Lib.hid r1
  have hBw : w.heap.size < B := by omega
  clear hw1 hw0 hB h z0 b0 r1 z1
  go_enter Tryz.func55, Tryz.ntmps55
  go_wp2_with fail
  rw [HW.out, HB.out]
  refine (C_amongLc B 0 _ 3 3 _ w1 _ HZ.out cu1 (by omega) (by omega) (by decide) (by omega) sm7 (by decide)).mono ?_; rintro e w2 ⟨t, rfl, ht, cu2, hb2⟩
  have R2 := Lib.hid (row_chg HR.out (Chg.of_grown hb2) (.inl hBw))
  have b2 := bel_chg (Chg.of_grown hb2) (Nat.le_of_lt hBw) b1
  obtain ⟨ht0, ht1⟩ := sm7_of ht
  clear hb2 cu1 HR b1 HW HZ HB ht
  go_wp2_with fail
  refine (C_look B _ t w2 cu2 (by omega) ht0 ht1).mono ?_; rintro e w3 ⟨x, rfl, hx, cu3, hb3⟩
  have h0 := row_chg R2.out (Chg.of_grown hb3) (.inl hBw)
  have b4 := bel_chg (Chg.of_grown hb3) (Nat.le_of_lt hBw) b2
  have hlt2 := h0.lt
  have HX := Lib.hid hx
  have y0 := h0.cell (i := 0) (by omega)
  have y1 := h0.cell (i := 1) (by omega)
  have y2 := h0.cell (i := 2) (by omega)
  have y3 := h0.cell (i := 3) (by omega)
  have y4 := h0.cell (i := 4) (by omega)
  have v0 := h0.frozen 0
  have v1 := h0.frozen 1
  have v2 := h0.frozen 2
  have v3 := h0.frozen 3
  have v4 := h0.frozen 4
  clear R2 cu2 cu3 hb3 h0 hx b2
  go_wp2_with fail
  go_light; refine bodyPost_ret (by simp (maxDischargeDepth := 3) [results, Tryz.results55, go_sem, *]; try rfl) rfl ?_
  refine ⟨x, rfl, HX.out, ?_⟩
  (repeat (first | with_reducible assumption | with_reducible refine Below.setCell ?_ (by first | omega | (simp; done) | (simp; omega)) _))
set_option maxHeartbeats 2000000 in
theorem C_DrawLookText (v : Value) (n : Nat) (w : World) (h : SU w v n) :
    Calls Tryz.prog 18 #[v] w fun e w' => ∃ x : Lk, e = .returned (.agg #[.int .i64 (x).tick, .int .i64 (x).who, .int .i64 (x).rid, .int .i64 (x).kind, .string (x).why]) ∧ smK x = true ∧ Below w.heap.size w w' := by
  obtain ⟨w0, hw0⟩ : ∃ w0, w0 = w.alloc (.cells #[.int .i64 0, .int .i64 0, .int .i64 0, .int .i64 0, .string (⟨#[]⟩ : ByteArray)] 37) := ⟨_, rfl⟩
  have b0 : Below w.heap.size w w0 := by rw [hw0]; (repeat (first | with_reducible exact Below.refl _ _ | with_reducible exact below_regrown _ _ _ | with_reducible refine bel_step0 (by assumption) ?_ | with_reducible refine bel_alloc0 ?_ _ | with_reducible refine bel_regrown0 ?_ _ _ | with_reducible refine bel_regrown ?_ (by first | omega | (simp; done) | (simp; omega)) _ _ | with_reducible refine below_drewN ?_ _ | with_reducible refine Below.drew ?_ | with_reducible refine Below.alloc ?_ (by first | omega | (simp; done) | (simp; omega)) _ | with_reducible refine Below.setCell ?_ (by first | omega | (simp; done) | (simp; omega)) _ | with_reducible refine bel_step (by assumption) (by first | omega | (simp; done) | (simp; omega)) ?_ | with_reducible refine bel_grown (by assumption) (by first | omega | (simp; done) | (simp; omega)) (by first | omega | (simp; done) | (simp; omega)) ?_))
  have r1 : w0.rowIs w.heap.size 37 5 (cK (⟨0, 0, 0, 0, (⟨#[]⟩ : ByteArray)⟩ : Lk)) := by rw [hw0]; exact row5_alloc w _ (⟨0, 0, 0, 0, (⟨#[]⟩ : ByteArray)⟩ : Lk)
  have HW := Lib.hid hw0.symm
  have HR := Lib.hid r1
  have h1 := h.below b0
  clear hw0 h r1
  go_enter Tryz.func18, Tryz.ntmps18
  go_wp2_with fail
  rw [HW.out]
  refine (C_DrawIsLook _ n w0 h1).mono ?_; rintro e w3 ⟨x, rfl, hx, hb3⟩
  have h0 := HR.out.of_block (hb3.block _ HR.out.lt)
  have b4 := bel_step0 hb3 b0
  have hlt2 := h0.lt
  have HX := Lib.hid hx
  have y0 := h0.cell (i := 0) (by omega)
  have y1 := h0.cell (i := 1) (by omega)
  have y2 := h0.cell (i := 2) (by omega)
  have y3 := h0.cell (i := 3) (by omega)
  have y4 := h0.cell (i := 4) (by omega)
  have v0 := h0.frozen 0
  have v1 := h0.frozen 1
  have v2 := h0.frozen 2
  have v3 := h0.frozen 3
  have v4 := h0.frozen 4
  clear HR hb3 h0 hx b0 HW
  go_wp2_with fail
  go_light; refine bodyPost_ret (by simp (maxDischargeDepth := 3) [results, Tryz.results18, go_sem, *]; try rfl) rfl ?_
  refine ⟨x, rfl, HX.out, ?_⟩
  (repeat (first | with_reducible assumption | with_reducible refine Below.setCell ?_ (by first | omega | (simp; done) | (simp; omega)) _))
end Go.Proofs.YtmhelhjjadoiaaaGreatDoor

/- What the law FnAccounts draws. No condition but those stated. -/
namespace Go.Proofs.YtmhelhjjadoiaaaGreatDoor
set_option linter.unusedVariables false
set_option linter.unusedSimpArgs false
open Go.RowKit Go.Sort
theorem C_DrawSameReason (v : Value) (n : Nat) (w : World) (h : SU w v n) :
    Calls Tryz.prog 27 #[v] w fun e w' => ∃ (u : Value) (m : Nat) (R : Nat → Lk), e = .returned u ∧ DK w' u m R ∧ Below w.heap.size w w' := by
  go_enter Tryz.func27, Tryz.ntmps27
  go_wp2_with fail
  refine (C_DrawIsAccount v n w h).mono ?_; rintro e w2 ⟨u, m, R, rfl, hd, hb⟩
  have HX := Lib.hid hd
  clear hd
  go_wp2_with fail
  go_ret
  exact ⟨_, m, R, rfl, HX.out, hb⟩
set_option maxHeartbeats 4000000 in
theorem C_DrawCrossedLooks (v : Value) (n : Nat) (w : World) (h : SU w v n) :
    Calls Tryz.prog 33 #[v] w fun e w' => ∃ (u : Value) (m : Nat) (R : Nat → Lk) (x : Int), e = .returned (.tuple #[u, .int .i64 x]) ∧ DK w' u m R ∧ sm7 x = true ∧ Below w.heap.size w w' := by
  obtain ⟨A, cap, rfl⟩ := h.form
  obtain ⟨B, hB⟩ : ∃ B, B = w.heap.size := ⟨_, rfl⟩
  obtain ⟨w1, hw1⟩ : ∃ w1, w1 = w.alloc (.cells #[.slice A n cap, .int .i64 0, .int .u64 0] 71) := ⟨_, rfl⟩
  have b1 : Below w.heap.size w w1 := by rw [hw1]; (repeat (first | with_reducible exact Below.refl _ _ | with_reducible exact below_regrown _ _ _ | with_reducible refine bel_step0 (by assumption) ?_ | with_reducible refine bel_alloc0 ?_ _ | with_reducible refine bel_regrown0 ?_ _ _ | with_reducible refine bel_regrown ?_ (by first | omega | (simp; done) | (simp; omega)) _ _ | with_reducible refine below_drewN ?_ _ | with_reducible refine Below.drew ?_ | with_reducible refine Below.alloc ?_ (by first | omega | (simp; done) | (simp; omega)) _ | with_reducible refine Below.setCell ?_ (by first | omega | (simp; done) | (simp; omega)) _ | with_reducible refine bel_step (by assumption) (by first | omega | (simp; done) | (simp; omega)) ?_ | with_reducible refine bel_grown (by assumption) (by first | omega | (simp; done) | (simp; omega)) (by first | omega | (simp; done) | (simp; omega)) ?_))
  have cu1 : Cu w1 B 0 := by rw [hw1, hB]; exact Cu.start h _
  have HW := Lib.hid hw1.symm
  have HB := Lib.hid hB.symm
  have hBw : w.heap.size ≤ B := by omega
  clear hw1 hB h
  go_enter Tryz.func33, Tryz.ntmps33
  go_wp2_with fail
  rw [HW.out, HB.out]
  refine (C_looks B 0 w1 cu1 (by omega)).mono ?_; rintro e w2 ⟨u, l, rfl, hl, hL⟩
  obtain ⟨m, hm⟩ : ∃ m, l.length = m := ⟨_, rfl⟩
  obtain ⟨UA, uc, rfl⟩ : ∃ A c, u = .slice A m c := by obtain ⟨A, c, e⟩ := hL.ol.form; exact ⟨A, c, by rw [e, hm]⟩
  have HM := Lib.hid hm
  have HL := Lib.hid hL
  clear cu1 HW hL hm HB
  have L2 := HL
  clear HL
  go_wp2_with fail
  obtain ⟨g2, hg⟩ : ∃ g, g = w2.heap.size := ⟨_, rfl⟩
  obtain ⟨wa2, hwa⟩ : ∃ wa, wa = w2.alloc (.cells #[.int .i64 0, .int .i64 1, .int .i64 6, .int .i64 100, .int .i64 1000000, .int .i64 (-1), .int .i64 1000001] 3) := ⟨_, rfl⟩
  have rg : wa2.rowIs g2 3 7 (fun j => (#[.int .i64 0, .int .i64 1, .int .i64 6, .int .i64 100, .int .i64 1000000, .int .i64 (-1), .int .i64 1000001] : Array Value).getD j undef) := by rw [hwa, hg]; exact row_lit w2 _ _
  have La2 := Lib.hid (show LL B _ w1 wa2 _ l by rw [hwa]; exact L2.out.alloc _)
  have hgB2 : g2 ≠ B := by have := L2.out.cu.lt; omega
  have HWA := Lib.hid hwa.symm
  have HG := Lib.hid hg.symm
  have RG2 := Lib.hid rg
  clear hwa hg rg L2
  rw [HWA.out, HG.out]
  clear HWA HG
  refine (C_pick B _ 24 wa2 La2.out.cu (by omega) (by omega) (by omega)).mono ?_; rintro e wb2 ⟨a, rfl, ⟨ha0, ha1⟩, cub, hbb⟩
  have R2 := Lib.hid (RG2.out.of_block (hbb.block g2 RG2.out.lt (by intro e; injection e with e; exact hgB2 e)))
  have Lb2 := Lib.hid (La2.out.step (Chg.of_grown hbb) cub)
  clear hbb cub La2 RG2
  obtain ⟨q, hq⟩ : ∃ q : Nat, (q : Int) = a / 11 := ⟨(a / 11).toNat, by omega⟩
  have hq2 : q ≤ 2 := by omega
  have hd1 : (0 : Int) ≤ 5 + a / 11 := by omega
  have hd2 : 5 + a / 11 ≤ 7 := by omega
  have hd3 : (5 + a / 11).toNat = 5 + q := by omega
  go_wp2_with fail
  refine (C_amongR B _ #[.int .i64 0, .int .i64 1, .int .i64 6, .int .i64 100, .int .i64 1000000, .int .i64 (-1), .int .i64 1000001] (5 + q) _ g2 wb2 3 R2.out hgB2 Lb2.out.cu (by omega) (by omega) (by simp; omega) (by omega) sm7 (by decide)).mono ?_; rintro e wc2 ⟨x2, rfl, hx, cuc, hbc⟩
  have HX2 := Lib.hid hx
  have Lc2 := Lib.hid (Lb2.out.step (Chg.of_grown hbc) cuc)
  clear hx hd1 hd2 hd3 hq cuc hbc R2 Lb2 hq2 ha0 ha1
  go_wp2_with fail
  go_ret2
  exact ⟨_, m, atK l, x2, rfl, by rw [← HM.out]; rw [← HM.out] at Lc2; exact Lc2.out.dk hl, HX2.out, bel_chg Lc2.out.ch hBw b1⟩
theorem C_l1MostK (a b : Int) (w : World) :
    Calls Tryz.prog 61 #[.int .i64 a, .int .i64 b] w fun e w' => e = .returned (.int .i64 (max a b)) ∧ w = w' := by
  go_enter Tryz.func61, Tryz.ntmps61
  go_wp2
  all_goals (go_ret; exact ⟨ret_int (by omega), rfl⟩)
theorem ot_form {base : Nat} {w : World} {v : Value} {xs : List ByteArray} (h : OT base w v xs) : ∃ A cap, v = .slice A xs.length cap := by
  rcases h.2 with ⟨rfl, h0⟩ | ⟨g, cap, cur, rfl, _⟩
  · exact ⟨none, 0, by rw [h0]⟩
  · exact ⟨_, cap, rfl⟩
theorem ot_formN {base n : Nat} {w : World} {v : Value} {xs : List ByteArray} {y : ByteArray} (hn : xs.length = n) (h : OT base w v (xs ++ [y])) : ∃ A cap, v = .slice A (n + 1) cap := by
  obtain ⟨A, cap, e⟩ := ot_form h
  exact ⟨A, cap, by rw [e, ← hn]; simp⟩
/-- Looks drawn, and texts that are being drawn behind them. -/
structure UX (B m : Nat) (w wb W : World) (v u : Value) (l : List Lk) (ts : List ByteArray) : Prop where
  ll : LL B m w W v l
  ot : OT wb.heap.size W u ts
  lb : ∀ k, v.ownBlock = some k → k < wb.heap.size
  hb : w.heap.size ≤ wb.heap.size
  hw : wb.heap.size ≤ W.heap.size
  sz : ∀ t ∈ ts, sh20 t = true
theorem UX.step {B m m' : Nat} {w wb W W' : World} {v u : Value} {l : List Lk} {ts : List ByteArray} (h : UX B m w wb W v u l ts) (hc : Chg B (B + 1) W W') (hcu : Cu W' B m') : UX B m' w wb W' v u l ts :=
  ⟨h.ll.step hc hcu, own_of_block h.ot (fun q hq => by
    have h1 := World.ownsRow.lt h.ot q hq
    have h2 := h.ll.lt
    have h3 := h.hb
    exact hc.block q h1.2 (.inr (by omega))), h.lb, h.hb, Nat.le_trans h.hw hc.size, h.sz⟩
theorem UX.mono {B m m' : Nat} {w wb W : World} {v u : Value} {l : List Lk} {ts : List ByteArray} (h : UX B m w wb W v u l ts) (hm : m ≤ m') : UX B m' w wb W v u l ts := ⟨h.ll.mono hm, h.ot, h.lb, h.hb, h.hw, h.sz⟩
theorem UX.alloc {B m : Nat} {w wb W : World} {v u : Value} {l : List Lk} {ts : List ByteArray} (h : UX B m w wb W v u l ts) (o : Obj) : UX B m w wb (W.alloc o) v u l ts := h.step ((Chg.refl _ _ _).alloc o) (h.ll.cu.alloc o)
theorem UX.grow {B m : Nat} {w wb W W' : World} {v u u' : Value} {l : List Lk} {ts : List ByteArray} {y : ByteArray} (h : UX B m w wb W v u l ts) (hb : Below wb.heap.size W W') (ho : OT wb.heap.size W' u' (ts ++ [y])) (hy : sh20 y = true) : UX B m w wb W' v u' l (ts ++ [y]) := by
  have h3 := h.ll.lt
  have h4 := h.hb
  have hc : Chg wb.heap.size (max wb.heap.size W.heap.size) W W' := ⟨hb.os, hb.tape, hb.output, hb.size, fun k hk hr => hb.block k (by omega)⟩
  refine ⟨⟨h.ll.cu.chg hc (by omega), ⟨hb.os.trans h.ll.ch.os, hb.tape.trans h.ll.ch.tape, hb.output.trans h.ll.ch.output, Nat.le_trans h.ll.ch.size hb.size, fun k hk hr => ?_⟩, h.ll.ol.ofB (fun g hg => hb.block g (h.lb g hg)), h3, h.ll.sz⟩, ho, h.lb, h.hb, Nat.le_trans h.hw hb.size, fun x hx => ?_⟩
  · exact (hb.block k (by omega)).trans (h.ll.ch.block k hk hr)
  · rcases List.mem_append.1 hx with hx | hx
    · exact h.sz x hx
    · rw [List.mem_singleton.1 hx]; exact hy
def lenV : Value → Nat
  | .slice _ n _ => n
  | _ => 0
theorem UX.fin {B mm m : Nat} {w w1 wb W : World} {v u : Value} {l : List Lk} {ts : List ByteArray} (h : UX B mm w1 wb W v u l ts) (hts : ts.length ≤ 12) (hm : l.length = m) (hl : l.length ≤ 16) (hBw : w.heap.size ≤ B) (b1 : Below w.heap.size w w1) :
    ∃ (u' : Value) (m : Nat) (R : Nat → Lk) (t : Value) (q : Nat) (f : Nat → ByteArray), Ending.returned (.tuple #[v, u]) = .returned (.tuple #[u', t]) ∧ DK W u' m R ∧ TI W t q f ∧ (q ≤ 12 ∧ ∀ j, j < q → (f j).size ≤ 20) ∧ Below w.heap.size w W :=
  ⟨v, l.length, atK l, u, ts.length, atT ts, rfl, h.ll.dk hl, h.ot.wt.ti, ⟨hts, fun j hj => by
    have h1 : atT ts j ∈ ts := by
      have := atT_lt (xs := ts) hj
      exact List.mem_of_getElem? this
    exact sh20_le (h.sz _ h1)⟩, bel_chg h.ll.ch hBw b1⟩
set_option maxRecDepth 100000 in
set_option maxHeartbeats 8000000 in
theorem C_DrawUnexplained (v : Value) (n : Nat) (w : World) (h : SU w v n) :
    Calls Tryz.prog 37 #[v] w fun e w' => ∃ (u : Value) (m : Nat) (R : Nat → Lk) (t : Value) (q : Nat) (f : Nat → ByteArray), e = .returned (.tuple #[u, t]) ∧ DK w' u m R ∧ TI w' t q f ∧ (q ≤ 12 ∧ ∀ j, j < q → (f j).size ≤ 20) ∧ Below w.heap.size w w' := by
  obtain ⟨A, cap, rfl⟩ := h.form
  obtain ⟨B, hB⟩ : ∃ B, B = w.heap.size := ⟨_, rfl⟩
  obtain ⟨w1, hw1⟩ : ∃ w1, w1 = w.alloc (.cells #[.slice A n cap, .int .i64 0, .int .u64 0] 71) := ⟨_, rfl⟩
  have b1 : Below w.heap.size w w1 := by rw [hw1]; (repeat (first | with_reducible exact Below.refl _ _ | with_reducible exact below_regrown _ _ _ | with_reducible refine bel_step0 (by assumption) ?_ | with_reducible refine bel_alloc0 ?_ _ | with_reducible refine bel_regrown0 ?_ _ _ | with_reducible refine bel_regrown ?_ (by first | omega | (simp; done) | (simp; omega)) _ _ | with_reducible refine below_drewN ?_ _ | with_reducible refine Below.drew ?_ | with_reducible refine Below.alloc ?_ (by first | omega | (simp; done) | (simp; omega)) _ | with_reducible refine Below.setCell ?_ (by first | omega | (simp; done) | (simp; omega)) _ | with_reducible refine bel_step (by assumption) (by first | omega | (simp; done) | (simp; omega)) ?_ | with_reducible refine bel_grown (by assumption) (by first | omega | (simp; done) | (simp; omega)) (by first | omega | (simp; done) | (simp; omega)) ?_))
  have cu1 : Cu w1 B 0 := by rw [hw1, hB]; exact Cu.start h _
  have HW := Lib.hid hw1.symm
  have HB := Lib.hid hB.symm
  have hBw : w.heap.size ≤ B := by omega
  clear hw1 hB h
  go_enter Tryz.func37, Tryz.ntmps37
  go_wp2_with fail
  rw [HW.out, HB.out]
  refine (C_looks B 0 w1 cu1 (by omega)).mono ?_; rintro e w2 ⟨u, l, rfl, hl, hL⟩
  obtain ⟨m, hm⟩ : ∃ m, l.length = m := ⟨_, rfl⟩
  obtain ⟨UA, uc, rfl⟩ : ∃ A c, u = .slice A m c := by obtain ⟨A, c, e⟩ := hL.ol.form; exact ⟨A, c, by rw [e, hm]⟩
  have HM := Lib.hid hm
  have HL := Lib.hid hL
  clear cu1 HW hL hm HB
  have h12 := HL.out.ch.size
  obtain ⟨w3, hw3⟩ : ∃ w3, w3 = w2.alloc (.cells #[] 9) := ⟨_, rfl⟩
  have U3 : UX B 200 w1 w2 w3 (.slice UA m uc) (.slice (some ⟨w2.heap.size, 0, none⟩) 0 0) l [] := by
    rw [hw3]
    exact ⟨(HL.out.alloc _).mono (by omega), OT.empty (Nat.le_refl _), fun k hk => (HL.out.ol.lt k hk).2, h12, by simp, fun t ht => by cases ht⟩
  have U3 := Lib.hid U3
  have HW3 := Lib.hid hw3.symm
  clear hw3
  go_wp2_with fail
  rw [HW3.out]
  refine (C_pick B _ 4 w3 U3.out.ll.cu (by omega) (by omega) (by omega)).mono ?_; rintro e w4 ⟨n0, rfl, ⟨hn0, hn1⟩, cu4, hb4⟩
  have U4 := Lib.hid (U3.out.step (Chg.of_grown hb4) cu4)
  clear cu4 hb4 U3 HW3 HL
  go_wp2
  go_loopw [6, 7] (fun o i wr => ∃ (k : Nat) (ts : List ByteArray), k ≤ 3 ∧ ts.length + k ≤ 3 ∧ i = .int .i64 k ∧ UX B (204 - k) w1 w2 wr (.slice UA m uc) o l ts) (fun _ i _ => (intOf i).toNat)
  case atStart => exact ⟨n0.toNat, [], by omega, by simp; omega, by rw [Int.toNat_of_nonneg hn0], U4.out.mono (by omega)⟩
  case round =>
    clear U4 hn0 hn1
    obtain ⟨k, ts, hk, hlk, rfl, hU⟩ := hrel
    obtain ⟨A2, c2, rfl⟩ := ot_form hU.ot
    obtain ⟨q, hq⟩ : ∃ q, ts.length = q := ⟨_, rfl⟩
    rw [hq] at hU hlk ⊢
    have HQ := Lib.hid hq
    have HU := Lib.hid hU
    clear hU hq
    by_cases hlt : 0 < k
    · have hlt2 : (0 : Int) < (k : Int) := by omega
      have HK1 := Lib.hid (show Value.int .i64 ((k : Int) - 1) = .int .i64 ((k - 1 : Nat) : Int) by rw [show ((k - 1 : Nat) : Int) = (k : Int) - 1 by omega])
      go_wp2_with fail
      refine (C_ofL B _ _ 4 4 _ wr _ rfl HU.out.ll.cu (by omega) (by omega) (by decide) (by omega) sh20 (by decide +kernel)).mono ?_; rintro e w5 ⟨y, rfl, hy, cu5, hb5⟩
      have U5 := Lib.hid (HU.out.step (Chg.of_grown hb5) cu5)
      have HY := Lib.hid hy
      clear cu5 hb5 HU hy
      have HO := Lib.hid (U5.out.alloc (.cells #[.string y] 9)); have HC := Lib.hid (cell_new w5 #[.string y] 9 0 (.string y) rfl); have hz5 := U5.out.hw; have hpl : ts.length ≤ 1099511627776 := (by rw [HQ.out]; omega); go_wp2_with (at_builtin; refine wp_appT1 _ rfl (.tmp 20) (.tmp 24) rfl w2.heap.size _ ts rfl HO.out.ot (w5).heap.size y rfl HC.out hpl (by simp; omega) ?_; intro v6 w6 ho6 hg6; obtain ⟨A6, c6, rfl⟩ := ot_formN HQ.out ho6; have U6 := Lib.hid (UX.grow HO.out hg6 ho6 HY.out); clear ho6 hg6); clear HO HC U5
      go_wp2
      go_roundw
      case rel => exact ⟨k - 1, ts ++ [y], by omega, by simp; rw [HQ.out]; omega, HK1.out, U6.out.mono (by omega)⟩
      case measure => simp [intOf]; omega
    · obtain rfl : k = 0 := by omega
      have hz : ¬ (0 : Int) < ((0 : Nat) : Int) := by omega
      have hq3 : q ≤ 3 := by omega
      clear hlt hlk hk
      go_wp2_with fail
      refine (C_pick B _ 24 wr HU.out.ll.cu (by omega) (by omega) (by omega)).mono ?_; rintro e w5 ⟨r, rfl, ⟨hr0, hr1⟩, cu5, hb5⟩
      have U5 := Lib.hid (HU.out.step (Chg.of_grown hb5) cu5)
      clear cu5 hb5 HU
      by_cases e0 : r = 0
      · subst e0
        go_wp2_with fail
        refine (C_ofL B _ _ 2 2 _ w5 _ rfl U5.out.ll.cu (by omega) (by omega) (by decide) (by omega) sh20 (by decide +kernel)).mono ?_; rintro e w6 ⟨y, rfl, hy, cu6, hb6⟩
        have U6' := Lib.hid (U5.out.step (Chg.of_grown hb6) cu6)
        have HY := Lib.hid hy
        clear cu6 hb6 U5 hy
        have HO := Lib.hid (U6'.out.alloc (.cells #[.string y] 9)); have HC := Lib.hid (cell_new w6 #[.string y] 9 0 (.string y) rfl); have hz5 := U6'.out.hw; have hpl : ts.length ≤ 1099511627776 := (by rw [HQ.out]; omega); go_wp2_with (at_builtin; refine wp_appT1 _ rfl (.tmp 30) (.tmp 34) rfl w2.heap.size _ ts rfl HO.out.ot (w6).heap.size y rfl HC.out hpl (by simp; omega) ?_; intro v6 w6 ho6 hg6; obtain ⟨A6, c6, rfl⟩ := ot_formN HQ.out ho6; have U6 := Lib.hid (UX.grow HO.out hg6 ho6 HY.out); clear ho6 hg6); clear HO HC U6'
        go_wp2
        go_ret2
        exact UX.fin U6.out (by simp; rw [HQ.out]; omega) HM.out hl hBw b1
      · by_cases e1 : r = 1
        · subst e1
          go_wp2
          go_loopw [6] (fun o wi => ∃ ts : List ByteArray, ts.length ≤ 11 ∧ UX B (300 + ts.length) w1 w2 wi (.slice UA m uc) o l ts) (fun o _ => 12 - lenV o)
          case atStart => exact ⟨ts, by rw [HQ.out]; omega, U5.out.mono (by omega)⟩
          case round =>
            clear U5 HQ
            obtain ⟨ts, hts, hU⟩ := hrel
            obtain ⟨A2, c2, rfl⟩ := ot_form hU.ot
            obtain ⟨q, hq⟩ : ∃ q, ts.length = q := ⟨_, rfl⟩
            rw [hq] at hU hts ⊢
            have HQ := Lib.hid hq
            have HU := Lib.hid hU
            clear hU hq
            go_wp2_with fail
            refine (C_pick B _ 2 wr HU.out.ll.cu (by omega) (by omega) (by omega)).mono ?_; rintro e w5 ⟨r, rfl, ⟨hr0, hr1⟩, cu5, hb5⟩
            have U5 := Lib.hid (HU.out.step (Chg.of_grown hb5) cu5)
            clear cu5 hb5 HU
            by_cases hlt : (q : Int) < 10 + r
            · obtain ⟨y, hy⟩ : ∃ y : ByteArray, y = ⟨#[97, 117, 100, 105, 116]⟩ := ⟨_, rfl⟩
              have HY : Hid (sh20 y = true) := Lib.hid (by rw [hy]; decide)
              have HO := Lib.hid (U5.out.alloc (.cells #[.string y] 9)); have HC := Lib.hid (cell_new w5 #[.string y] 9 0 (.string y) rfl); have hz5 := U5.out.hw; have hpl : ts.length ≤ 1099511627776 := (by rw [HQ.out]; omega); have HYE := Lib.hid hy; clear hy; go_wp2_with (at_builtin; rw [← HYE.out]; refine wp_appT1 _ rfl (.tmp 44) (.tmp 45) rfl w2.heap.size _ ts rfl HO.out.ot (w5).heap.size y rfl HC.out hpl (by simp; omega) ?_; intro v6 w6 ho6 hg6; obtain ⟨A6, c6, rfl⟩ := ot_formN HQ.out ho6; have U6 := Lib.hid (UX.grow HO.out hg6 ho6 HY.out); clear ho6 hg6); clear HO HC U5
              go_wp2
              go_roundw
              case rel => exact ⟨ts ++ [y], by simp; rw [HQ.out]; omega, U6.out.mono (by simp; rw [HQ.out]; omega)⟩
              case measure => simp [lenV]; omega
            · go_wp2
              go_ret2
              exact UX.fin U5.out (by rw [HQ.out]; omega) HM.out hl hBw b1
        · go_wp2
          go_ret2
          exact UX.fin U5.out (by rw [HQ.out]; omega) HM.out hl hBw b1
end Go.Proofs.YtmhelhjjadoiaaaGreatDoor

/- The accounts that the law FnAccounts draws to be merged. No condition but those stated. -/
namespace Go.Proofs.YtmhelhjjadoiaaaGreatDoor
set_option linter.unusedVariables false
set_option linter.unusedSimpArgs false
open Go.RowKit Go.Sort
theorem OL.dk {base : Nat} {w : World} {v : Value} {l : List Lk} (h : OL base w v l) (hl : l.length ≤ 16) (hs : ∀ x ∈ l, smK x = true) : DK w v l.length (atK l) := ⟨h.lks, hl, smK_at hs⟩
set_option maxRecDepth 100000 in
set_option maxHeartbeats 8000000 in
theorem C_DrawMergeAccounts (v : Value) (n : Nat) (w : World) (h : SU w v n) :
    Calls Tryz.prog 22 #[v] w fun e w' => ∃ (u : Value) (m : Nat) (R : Nat → Lk) (t : Value) (q : Nat) (S : Nat → Lk), e = .returned (.tuple #[u, t]) ∧ DK w' u m R ∧ DK w' t q S ∧ Below w.heap.size w w' := by
  obtain ⟨A, cap, rfl⟩ := h.form
  obtain ⟨B, hB⟩ : ∃ B, B = w.heap.size := ⟨_, rfl⟩
  obtain ⟨w1, hw1⟩ : ∃ w1, w1 = w.alloc (.cells #[.slice A n cap, .int .i64 0, .int .u64 0] 71) := ⟨_, rfl⟩
  have b1 : Below w.heap.size w w1 := by rw [hw1]; (repeat (first | with_reducible exact Below.refl _ _ | with_reducible exact below_regrown _ _ _ | with_reducible refine bel_step0 (by assumption) ?_ | with_reducible refine bel_alloc0 ?_ _ | with_reducible refine bel_regrown0 ?_ _ _ | with_reducible refine bel_regrown ?_ (by first | omega | (simp; done) | (simp; omega)) _ _ | with_reducible refine below_drewN ?_ _ | with_reducible refine Below.drew ?_ | with_reducible refine Below.alloc ?_ (by first | omega | (simp; done) | (simp; omega)) _ | with_reducible refine Below.setCell ?_ (by first | omega | (simp; done) | (simp; omega)) _ | with_reducible refine bel_step (by assumption) (by first | omega | (simp; done) | (simp; omega)) ?_ | with_reducible refine bel_grown (by assumption) (by first | omega | (simp; done) | (simp; omega)) (by first | omega | (simp; done) | (simp; omega)) ?_))
  have cu1 : Cu w1 B 0 := by rw [hw1, hB]; exact Cu.start h _
  have HW := Lib.hid hw1.symm
  have HB := Lib.hid hB.symm
  have hBw : w.heap.size ≤ B := by omega
  clear hw1 hB h
  go_enter Tryz.func22, Tryz.ntmps22
  go_wp2_with fail
  rw [HW.out, HB.out]
  refine (C_looks B 0 w1 cu1 (by omega)).mono ?_; rintro e w2 ⟨u, l, rfl, hl, hL⟩
  obtain ⟨m, hm⟩ : ∃ m, l.length = m := ⟨_, rfl⟩
  obtain ⟨UA, uc, rfl⟩ : ∃ A c, u = .slice A m c := by obtain ⟨A, c, e⟩ := hL.ol.form; exact ⟨A, c, by rw [e, hm]⟩
  have HM := Lib.hid hm
  have HL := Lib.hid hL
  clear cu1 HW hL hm HB
  by_cases hm1 : (1 : Int) < (m : Int)
  case neg =>
    go_wp2_with fail
    refine (C_looks B _ w2 HL.out.cu (by omega)).mono ?_; rintro e w9 ⟨u9, l9, rfl, hl9, hL9⟩
    have hc9 := hL9.ch
    have L9 := Lib.hid (HL.out.step hc9 hL9.cu)
    have X9 := Lib.hid hL9
    clear hL9 hc9
    go_wp2_with fail
    go_ret2
    exact ⟨_, m, atK l, _, l9.length, atK l9, rfl, by rw [← HM.out]; rw [← HM.out] at L9; exact L9.out.dk hl, X9.out.dk hl9, bel_chg L9.out.ch hBw b1⟩
  go_wp2_with fail
  refine (C_one B _ 2 w2 HL.out.cu (by omega) (by omega) (by omega)).mono ?_; rintro e w3 ⟨b, rfl, cu3, hb3⟩
  have L3 := Lib.hid (HL.out.step (Chg.of_grown hb3) cu3)
  clear cu3 hb3 HL
  cases b
  · go_wp2_with fail
    refine (C_looks B _ w3 L3.out.cu (by omega)).mono ?_; rintro e w9 ⟨u9, l9, rfl, hl9, hL9⟩
    have hc9 := hL9.ch
    have L9 := Lib.hid (L3.out.step hc9 hL9.cu)
    have X9 := Lib.hid hL9
    clear hL9 hc9
    go_wp2_with fail
    go_ret2
    exact ⟨_, m, atK l, _, l9.length, atK l9, rfl, by rw [← HM.out]; rw [← HM.out] at L9; exact L9.out.dk hl, X9.out.dk hl9, bel_chg L9.out.ch hBw b1⟩
  · have hm16 : m ≤ 16 := by rw [← HM.out]; exact hl
    go_wp2_with fail
    refine (C_pick B _ m w3 L3.out.cu (by omega) (by omega) (by omega)).mono ?_; rintro e w4 ⟨r, rfl, ⟨hr0, hr1⟩, cu4, hb4⟩
    have L4 := Lib.hid (L3.out.step (Chg.of_grown hb4) cu4)
    clear cu4 hb4 L3
    obtain ⟨k, rfl⟩ : ∃ k : Nat, r = (k : Int) := ⟨r.toNat, by omega⟩
    obtain ⟨q, hq⟩ : ∃ q : Nat, max 0 ((k : Int) - 1) = (q : Int) := ⟨(max 0 ((k : Int) - 1)).toNat, by omega⟩
    have huc : m ≤ uc := by
      rcases L4.out.ol.2 with ⟨e, h0⟩ | ⟨gq, cap', cur, e, _, _, h1, h2, _⟩
      · rw [HM.out] at h0; omega
      · injection e with e1 e2 e3; rw [HM.out] at h1; omega
    obtain ⟨gq, hgq⟩ : ∃ gq, UA = some ⟨gq, 0, none⟩ := by
      rcases L4.out.ol.2 with ⟨e, h0⟩ | ⟨gq, cap', cur, e, _, _, h1, h2, _⟩
      · rw [HM.out] at h0; omega
      · injection e with e1 e2 e3; exact ⟨gq, e1⟩
    subst hgq
    have hk1 : (k : Int) ≤ (m : Int) := by omega
    have hk2 : (k : Int) ≤ (uc : Int) := by omega
    have hq0 : (0 : Int) ≤ (q : Int) := by omega
    have hq1 : (q : Int) ≤ (m : Int) := by omega
    have hq2 : (q : Int) ≤ (uc : Int) := by omega
    have hq3 : q < m := by omega
    have hz4 := L4.out.ch.size
    obtain ⟨w5, hw5⟩ : ∃ w5, w5 = w4.alloc (.cells #[] 37) := ⟨_, rfl⟩
    have B5 : Below w4.heap.size w4 w5 := by rw [hw5]; (repeat (first | with_reducible exact Below.refl _ _ | with_reducible exact below_regrown _ _ _ | with_reducible refine bel_step0 (by assumption) ?_ | with_reducible refine bel_alloc0 ?_ _ | with_reducible refine bel_regrown0 ?_ _ _ | with_reducible refine bel_regrown ?_ (by first | omega | (simp; done) | (simp; omega)) _ _ | with_reducible refine below_drewN ?_ _ | with_reducible refine Below.drew ?_ | with_reducible refine Below.alloc ?_ (by first | omega | (simp; done) | (simp; omega)) _ | with_reducible refine Below.setCell ?_ (by first | omega | (simp; done) | (simp; omega)) _ | with_reducible refine bel_step (by assumption) (by first | omega | (simp; done) | (simp; omega)) ?_ | with_reducible refine bel_grown (by assumption) (by first | omega | (simp; done) | (simp; omega)) (by first | omega | (simp; done) | (simp; omega)) ?_))
    have HO5 := Lib.hid (show OL w4.heap.size w5 (.slice (some ⟨w4.heap.size, 0, none⟩) 0 0) [] by rw [hw5]; exact OL.emptyAt rfl (Nat.le_refl _))
    have HTK := Lib.hid ((L4.out.ol.ml.take k).below B5)
    have HTL := Lib.hid (show (l.take k).length = k by rw [List.length_take, HM.out]; omega)
    have HW5 := Lib.hid hw5.symm
    have HB5 := Lib.hid B5
    have hz5 := B5.size
    clear hw5 B5
    go_wp2_with (at_builtin; rw [HW5.out]; refine wp_appL _ rfl (.tmp 24) (.tmp 27) rfl w4.heap.size _ _ rfl HO5.out _ k _ (l.take k) HTL.out rfl HTK.out (by simp; omega) hz5 ?_; intro v6 w6 ho6 hg6 _)
    have B6 := HB5.out.trans ((Below.refl _ w5).grown hg6 hz5 (fun q hq => (OL.lt HO5.out q hq).1))
    have hz6 := B6.size
    obtain ⟨w7, hw7⟩ : ∃ w7, w7 = w6.alloc (.cells #[] 37) := ⟨_, rfl⟩
    have B7 : Below w6.heap.size w6 w7 := by rw [hw7]; (repeat (first | with_reducible exact Below.refl _ _ | with_reducible exact below_regrown _ _ _ | with_reducible refine bel_step0 (by assumption) ?_ | with_reducible refine bel_alloc0 ?_ _ | with_reducible refine bel_regrown0 ?_ _ _ | with_reducible refine bel_regrown ?_ (by first | omega | (simp; done) | (simp; omega)) _ _ | with_reducible refine below_drewN ?_ _ | with_reducible refine Below.drew ?_ | with_reducible refine Below.alloc ?_ (by first | omega | (simp; done) | (simp; omega)) _ | with_reducible refine Below.setCell ?_ (by first | omega | (simp; done) | (simp; omega)) _ | with_reducible refine bel_step (by assumption) (by first | omega | (simp; done) | (simp; omega)) ?_ | with_reducible refine bel_grown (by assumption) (by first | omega | (simp; done) | (simp; omega)) (by first | omega | (simp; done) | (simp; omega)) ?_))
    have hz7 := B7.size
    have HO7 := Lib.hid (show OL w6.heap.size w7 (.slice (some ⟨w6.heap.size, 0, none⟩) 0 0) [] by rw [hw7]; exact OL.emptyAt rfl (Nat.le_refl _))
    have hdr := (ML.drop (L4.out.ol.ml) q).below (B6.trans (B7.mono hz6))
    rw [Nat.zero_add] at hdr
    have HDR := Lib.hid hdr
    have HDL := Lib.hid (show (l.drop q).length = m - q by rw [List.length_drop, HM.out])
    have HLT6 := Lib.hid (fun g hg => (OL.lt ho6 g hg).2)
    have HO6 := Lib.hid (And.intro (ho6.below B7) (And.intro (B6.trans (B7.mono hz6)) B7))
    have HW7 := Lib.hid hw7.symm
    clear hdr ho6 hg6 B6 B7 hw7 HO5 HTK HB5 HW5
    have CM : ∀ W, Calls Tryz.prog 61 #[.int .i64 0, .int .i64 ((k : Int) - 1)] W fun e w' => e = .returned (.int .i64 (q : Int)) ∧ W = w' := fun W => by rw [← hq]; exact C_l1MostK 0 ((k : Int) - 1) W
    have HCM := Lib.hid CM
    clear CM hq
    go_wp2_with fail
    rw [HW7.out]
    refine (HCM.out w7).mono ?_; rintro e w8 ⟨rfl, rfl⟩
    go_wp2_with (at_builtin; refine wp_appL _ rfl (.tmp 29) (.tmp 34) rfl w6.heap.size _ _ rfl HO7.out _ (m - q) _ (l.drop q) HDL.out rfl HDR.out (by simp; omega) hz7 ?_; intro v9 w9 ho9 hg9 _)
    have B9 := (Below.refl w6.heap.size w7).grown hg9 hz7 (fun q hq => (OL.lt HO7.out q hq).1)
    have o6 : OL w4.heap.size w9 v6 ([] ++ l.take k) := HO6.out.1.ofB (fun g hg => B9.block g (HLT6.out g hg))
    have HF := Lib.hid (And.intro o6 ho9)
    have BF : Below w4.heap.size w4 w9 := HO6.out.2.1.trans (B9.mono hz6)
    clear o6 ho9 hg9 HO7 HO6
    go_wp2
    go_ret2
    exact ⟨_, _, _, _, _, _, rfl, HF.out.1.dk (by simp; omega) (fun x hx => L4.out.sz x (List.mem_of_mem_take (by simpa using hx))), HF.out.2.dk (by simp; omega) (fun x hx => L4.out.sz x (List.mem_of_mem_drop (by simpa using hx))), bel_step0 BF (bel_chg L4.out.ch hBw b1)⟩
end Go.Proofs.YtmhelhjjadoiaaaGreatDoor

/- How the law FnAccounts compares, and what it asks of reasons. No condition but those stated. -/
namespace Go.Proofs.YtmhelhjjadoiaaaGreatDoor
set_option linter.unusedVariables false
set_option linter.unusedSimpArgs false
open Go.RowKit Go.Sort
theorem eqK_refl (x : Lk) : eqK x x = true := by unfold eqK; simp
set_option maxHeartbeats 4000000 in
theorem C_rLooks (v v' : Value) (n : Nat) (R : Nat → Lk) (w : World) (h : LKs w v n R) (h' : LKs w v' n R) :
    Calls Tryz.prog 25 #[v, v'] w fun e w' => e = .returned (.bool true) ∧ Below w.heap.size w w' := by
  obtain ⟨A, cap, rfl, hr, hc, hm⟩ := h
  obtain ⟨A', cap', rfl, hr', hc', hm'⟩ := h'
  have HR := Lib.hid (And.intro hr hr'); clear hr hr'
  go_enter Tryz.func25, Tryz.ntmps25
  go_wp2
  go_loopw [5] (fun i wr => ∃ k : Nat, k ≤ n ∧ i = .int .i64 k ∧ Below w.heap.size w wr) (fun i _ => n - (intOf i).toNat)
  case atStart => exact ⟨0, Nat.zero_le _, rfl, Below.refl _ _⟩
  case round =>
    obtain ⟨k, hk, rfl, hB⟩ := hrel
    by_cases hlt : k < n
    · obtain ⟨b, off, rfl, hb, hcell⟩ := (HR.out.1.below hB) (by omega)
      obtain ⟨b', off', rfl, hb', hcell'⟩ := (HR.out.2.below hB) (by omega)
      obtain ⟨c0, c1, c2, c3, c4⟩ := hcell k hlt
      obtain ⟨d0, d1, d2, d3, d4⟩ := hcell' k hlt
      obtain ⟨x, hx⟩ : ∃ x, R k = x := ⟨_, rfl⟩
      rw [hx] at c0 c1 c2 c3 c4 d0 d1 d2 d3 d4
      have g0 := cell_regrown c0; have g1 := cell_regrown c1; have g2 := cell_regrown c2; have g3 := cell_regrown c3; have g4 := cell_regrown c4
      have k0 := cell_regrown d0; have k1 := cell_regrown d1; have k2 := cell_regrown d2; have k3 := cell_regrown d3; have k4 := cell_regrown d4
      have hn0 : (k : Int) < (n : Int) := by omega
      have hk0 : (0 : Int) ≤ (k : Int) := by omega
      have hql : ∀ w', (binOp .neq 37 (.agg #[.int .i64 (x).tick, .int .i64 (x).who, .int .i64 (x).rid, .int .i64 (x).kind, .string (x).why]) (.agg #[.int .i64 (x).tick, .int .i64 (x).who, .int .i64 (x).rid, .int .i64 (x).kind, .string (x).why])).run Tryz.prog w' = .ok (.bool false) w' := fun w' => by rw [neq_look, eqK_refl]; rfl
      have hgl : ∀ op a b w', (eqGuard op 37 a b (.agg #[.int .i64 (x).tick, .int .i64 (x).who, .int .i64 (x).rid, .int .i64 (x).kind, .string (x).why]) (.agg #[.int .i64 (x).tick, .int .i64 (x).who, .int .i64 (x).rid, .int .i64 (x).kind, .string (x).why])).run Tryz.prog w' = .ok () w' := fun op a b w' => guard_look op a b x x w'
      clear c0 c1 c2 c3 c4 d0 d1 d2 d3 d4 hcell hcell' hx
      go_wp2
      (refine wp_region_quiet_below (by kernel_rfl) (by kernel_rfl) ?_; (repeat (go_big_quiet_step (fail))); refine wpQuiet_nil ?_; intro _ hw'; obtain ⟨⟨dq, osq⟩, hw''⟩ := hw'; subst hw'')
      clear g0 g1 g2 g3 g4 k0 k1 k2 k3 k4 hql hgl
      go_wp2
      go_roundw
      case rel => exact ⟨k + 1, by omega, by go_num, by (repeat (first | with_reducible exact Below.refl _ _ | with_reducible exact below_regrown _ _ _ | with_reducible refine bel_step0 (by assumption) ?_ | with_reducible refine bel_alloc0 ?_ _ | with_reducible refine bel_regrown0 ?_ _ _ | with_reducible refine bel_regrown ?_ (by first | omega | (simp; done) | (simp; omega)) _ _ | with_reducible refine below_drewN ?_ _ | with_reducible refine Below.drew ?_ | with_reducible refine Below.alloc ?_ (by first | omega | (simp; done) | (simp; omega)) _ | with_reducible refine Below.setCell ?_ (by first | omega | (simp; done) | (simp; omega)) _ | with_reducible refine bel_step (by assumption) (by first | omega | (simp; done) | (simp; omega)) ?_ | with_reducible refine bel_grown (by assumption) (by first | omega | (simp; done) | (simp; omega)) (by first | omega | (simp; done) | (simp; omega)) ?_))⟩
      case measure => simp [intOf]; omega
    · go_wp2
      go_ret
      exact ⟨rfl, hB⟩
/-- The sum of the first n numbers. -/
def sumF (f : Nat → Int) : Nat → Int
  | 0 => 0
  | k + 1 => sumF f k + f k
theorem sumF_bd {f : Nat → Int} {n : Nat} (hb : ∀ j, j < n → 0 ≤ f j ∧ f j ≤ 1000) : ∀ k, k ≤ n → 0 ≤ sumF f k ∧ sumF f k ≤ 1000 * k := by
  intro k
  induction k with
  | zero => intro _; simp [sumF]
  | succ k ih =>
    intro hk
    have := ih (by omega)
    have := hb k (by omega)
    simp only [sumF]
    omega
theorem C_rSum (v : Value) (n : Nat) (f : Nat → Int) (w : World) (h : SI w v n f) (hn : n ≤ 1000000) (hb : ∀ j, j < n → 0 ≤ f j ∧ f j ≤ 1000) :
    Calls Tryz.prog 31 #[v] w fun e w' => e = .returned (.int .i64 (sumF f n)) ∧ w = w' := by
  have hbd := sumF_bd hb
  obtain ⟨A, cap, rfl, hr, hc, hm⟩ := h
  have HR := Lib.hid hr; clear hr
  have HB := Lib.hid (And.intro hb hbd); clear hb hbd
  go_enter Tryz.func31, Tryz.ntmps31
  go_wp2
  go_loop [3, 4] (fun q i => ∃ k : Nat, k ≤ n ∧ i = .int .i64 k ∧ q = .int .i64 (sumF f k)) (fun _ i => n - (intOf i).toNat)
  case atStart => exact ⟨0, Nat.zero_le _, rfl, rfl⟩
  case round =>
    obtain ⟨k, hk, rfl, rfl⟩ := hrel
    by_cases hlt : k < n
    · obtain ⟨b, off, rfl, hb0, hcell⟩ := HR.out (by omega)
      have c0 := hcell k hlt
      obtain ⟨z, hz⟩ : ∃ z, f k = z := ⟨_, rfl⟩
      obtain ⟨s, hs⟩ : ∃ s, sumF f k = s := ⟨_, rfl⟩
      have h1 := HB.out.1 k hlt
      have h2 := HB.out.2 k hk
      rw [hz] at c0 h1
      rw [hs] at h2 ⊢
      have HN := Lib.hid (show sumF f (k + 1) = s + z by rw [← hs, ← hz]; rfl)
      have hn0 : (k : Int) < (n : Int) := by omega
      have hk0 : (0 : Int) ≤ (k : Int) := by omega
      clear hcell hz hs
      go_wp2
      go_round
      case rel => exact ⟨k + 1, by omega, by go_num, by rw [HN.out]⟩
      case measure => simp [intOf]; omega
    · obtain rfl : k = n := by omega
      go_wp2
      go_ret
      exact ⟨rfl, rfl⟩
end Go.Proofs.YtmhelhjjadoiaaaGreatDoor

/- What the law FnAccounts asks of reasons and of merged accounts. No condition but those stated. -/
namespace Go.Proofs.YtmhelhjjadoiaaaGreatDoor
set_option linter.unusedVariables false
set_option linter.unusedSimpArgs false
open Go.RowKit Go.Sort Go.WideMaps Go.Maps
/-- The sum of the counts of some words. -/
noncomputable def sumW (c : Lit → Int) : List ByteArray → Int
  | [] => 0
  | x :: l => c (kS x) + sumW c l
theorem sumW_app (c : Lit → Int) (l r : List ByteArray) : sumW c (l ++ r) = sumW c l + sumW c r := by
  induction l with
  | nil => simp [sumW]
  | cons x l ih => simp only [List.cons_append, sumW, ih]; omega
theorem sumW_perm (c : Lit → Int) {l r : List ByteArray} (h : l.Perm r) : sumW c l = sumW c r := by
  induction h with
  | nil => rfl
  | cons x _ ih => simp only [sumW, ih]
  | swap x y l => simp only [sumW]; omega
  | trans _ _ h1 h2 => exact h1.trans h2
theorem sumW_congr {c d : Lit → Int} {l : List ByteArray} (h : ∀ x ∈ l, c (kS x) = d (kS x)) : sumW c l = sumW d l := by
  induction l with
  | nil => rfl
  | cons x l ih =>
    simp only [sumW]
    rw [h x (List.mem_cons_self ..), ih fun y hy => h y (List.mem_cons_of_mem _ hy)]
theorem sumW_up {c : Lit → Int} {K : Lit} : ∀ {l : List ByteArray}, l.Pairwise (fun x y => kS x ≠ kS y) → (∃ y ∈ l, kS y = K) → sumW (updC c K (c K + 1)) l = sumW c l + 1 := by
  intro l
  induction l with
  | nil => rintro _ ⟨y, hy, _⟩; cases hy
  | cons x l ih =>
    intro hp he
    rw [List.pairwise_cons] at hp
    simp only [sumW]
    by_cases e : kS x = K
    · have h1 : sumW (updC c K (c K + 1)) l = sumW c l := sumW_congr fun y hy => updC_other fun h => hp.1 y hy (e.trans h.symm)
      rw [h1, e, updC_same]; omega
    · have h2 : ∃ y ∈ l, kS y = K := by
        obtain ⟨y, hy, hk⟩ := he
        rcases List.mem_cons.1 hy with h | h
        · subst h; exact absurd hk e
        · exact ⟨y, h, hk⟩
      rw [ih hp.2 h2, updC_other e]; omega
/-- What the words of the first k looks are. -/
structure Wds (R : Nat → Lk) (k : Nat) : Prop where
  sum : sumW (cL R k) (dL R k) = k
  dif : (dL R k).Pairwise fun x y => kS x ≠ kS y
  pos : ∀ y ∈ dL R k, cL R k (kS y) ≠ 0
  cov : ∀ i, i < k → ∃ y ∈ dL R k, kS y = kS (R i).why
  frm : ∀ y ∈ dL R k, ∃ i, i < k ∧ y = (R i).why
theorem cL_other {R : Nat → Lk} {k : Nat} {x : Lit} (h : x ≠ kS (R k).why) : cL R (k + 1) x = cL R k x := updC_other h
theorem cL_same (R : Nat → Lk) (k : Nat) : cL R (k + 1) (kS (R k).why) = cL R k (kS (R k).why) + 1 := updC_same _ _ _
theorem cL_zero {R : Nat → Lk} {x : Lit} : ∀ {k : Nat}, cL R k x = 0 → ∀ i, i < k → kS (R i).why ≠ x := by
  intro k
  induction k with
  | zero => intro _ i hi; omega
  | succ k ih =>
    intro h i hi
    by_cases e : x = kS (R k).why
    · rw [e, cL_same] at h
      have := (cL_bd R k (kS (R k).why)).1
      omega
    · rw [cL_other e] at h
      by_cases e2 : i = k
      · subst e2; exact fun h => e h.symm
      · exact ih h i (by omega)
theorem cL_has {R : Nat → Lk} {x : Lit} : ∀ {k : Nat}, cL R k x ≠ 0 → ∃ i, i < k ∧ kS (R i).why = x := by
  intro k
  induction k with
  | zero => intro h; exact absurd rfl h
  | succ k ih =>
    intro h
    by_cases e : x = kS (R k).why
    · exact ⟨k, by omega, e.symm⟩
    · rw [cL_other e] at h
      obtain ⟨i, hi, hx⟩ := ih h
      exact ⟨i, by omega, hx⟩
theorem wds (R : Nat → Lk) : ∀ k, Wds R k := by
  intro k
  induction k with
  | zero => exact ⟨rfl, List.Pairwise.nil, fun y hy => (by cases hy), fun i hi => absurd hi (by omega), fun y hy => (by cases hy)⟩
  | succ k ih =>
    by_cases h : cL R k (kS (R k).why) = 0
    · have hne : ∀ y ∈ dL R k, kS y ≠ kS (R k).why := fun y hy e => ih.pos y hy (by rw [e]; exact h)
      refine ⟨?_, ?_, ?_, ?_, ?_⟩
      · rw [dL_new h, sumW_app, sumW_congr (d := cL R k) fun y hy => cL_other (hne y hy), ih.sum]
        simp only [sumW]
        rw [cL_same, h]; omega
      · rw [dL_new h, List.pairwise_append]
        exact ⟨ih.dif, List.pairwise_singleton _ _, fun x hx y hy => by rw [List.mem_singleton.1 hy]; exact hne x hx⟩
      · intro y hy
        rw [dL_new h, List.mem_append] at hy
        rcases hy with hy | hy
        · rw [cL_other (hne y hy)]; exact ih.pos y hy
        · rw [List.mem_singleton.1 hy, cL_same, h]; omega
      · intro i hi
        rw [dL_new h]
        by_cases e : i = k
        · subst e; exact ⟨_, List.mem_append_right _ (List.mem_singleton.2 rfl), rfl⟩
        · obtain ⟨y, hy, hk⟩ := ih.cov i (by omega)
          exact ⟨y, List.mem_append_left _ hy, hk⟩
      · intro y hy
        rw [dL_new h, List.mem_append] at hy
        rcases hy with hy | hy
        · obtain ⟨i, hi, e⟩ := ih.frm y hy
          exact ⟨i, by omega, e⟩
        · exact ⟨k, by omega, List.mem_singleton.1 hy⟩
    · have hcov : ∃ y ∈ dL R k, kS y = kS (R k).why := by
        obtain ⟨i, hi, e⟩ := cL_has h
        obtain ⟨y, hy, hk⟩ := ih.cov i hi
        exact ⟨y, hy, hk.trans e⟩
      have hb := fun x => (cL_bd R k x).1
      refine ⟨?_, ?_, ?_, ?_, ?_⟩
      · rw [dL_old h]
        show sumW (updC (cL R k) (kS (R k).why) (cL R k (kS (R k).why) + 1)) (dL R k) = _
        rw [sumW_up ih.dif hcov, ih.sum]; omega
      · rw [dL_old h]; exact ih.dif
      · intro y hy
        rw [dL_old h] at hy
        by_cases e : kS y = kS (R k).why
        · rw [e, cL_same]; have := hb (kS (R k).why); omega
        · rw [cL_other e]; exact ih.pos y hy
      · intro i hi
        rw [dL_old h]
        by_cases e : i = k
        · subst e; exact hcov
        · exact ih.cov i (by omega)
      · intro y hy
        rw [dL_old h] at hy
        obtain ⟨i, hi, e⟩ := ih.frm y hy
        exact ⟨i, by omega, e⟩
theorem sumF_congr {f g : Nat → Int} : ∀ {n : Nat}, (∀ j, j < n → f j = g j) → sumF f n = sumF g n := by
  intro n
  induction n with
  | zero => intro _; rfl
  | succ n ih => intro h; simp only [sumF]; rw [ih fun j hj => h j (by omega), h n (by omega)]
theorem sumF_front (f : Nat → Int) : ∀ n, sumF f (n + 1) = f 0 + sumF (fun j => f (j + 1)) n := by
  intro n
  induction n with
  | zero => simp [sumF]
  | succ n ih =>
    rw [sumF, ih]
    simp only [sumF]
    omega
theorem sumF_W (c : Lit → Int) : ∀ W : List ByteArray, sumF (ai (W.map fun x => c (kS x))) W.length = sumW c W := by
  intro W
  induction W with
  | nil => rfl
  | cons x W ih =>
    rw [List.length_cons, sumF_front]
    simp only [sumW]
    rw [← ih]
    congr 1
/-- Both sides of SameReason, and what the law asks of them. -/
theorem both_more (n : Nat) (R : Nat → Lk) (hs : ∀ j, j < n → (R j).why.size ≤ 9223372036854775807) : ∃ (ok : Bool) (m : Nat) (F : Nat → ByteArray) (G : Nat → Int), m ≤ 15 ∧
    (∀ w v, LKs w v n R → Calls Tryz.prog 28 #[v] w fun e w' => ∃ v1 v2, e = .returned (.tuple #[v1, v2, .bool ok]) ∧ TN w.heap.size w' v1 v2 m F G ∧ Below w.heap.size w w') ∧
    (∀ w v, LKs w v n R → Calls Tryz.prog 29 #[v] w fun e w' => ∃ v1 v2, e = .returned (.tuple #[v1, v2, .bool ok]) ∧ TN w.heap.size w' v1 v2 m F G ∧ Below w.heap.size w w') ∧
    (∀ j, j < m → 0 ≤ G j ∧ G j ≤ 1000) ∧ (∀ j, j < m → (F j).size ≤ 9223372036854775807) ∧ (ok = true → sumF G m = n ∧ (m ≤ 10 → ueOk n R m F = true ∧ ueL n R m F = [])) := by
  cases hd : accB n R
  · refine ⟨false, 0, atT [], ai [], by omega, fun w v h => ?_, fun w v h => ?_, fun j hj => absurd hj (by omega), fun j hj => absurd hj (by omega), fun h => by cases h⟩
    · exact (C_SameReasonI_no v n R w h hs hd).mono fun e w' ⟨v1, v2, e1, e2, e3, e4⟩ => ⟨v1, v2, e1, TN.of e2 e3 rfl, e4⟩
    · exact (C_SameReasonS_no v n R w h hs hd).mono fun e w' ⟨v1, v2, e1, e2, e3, e4⟩ => ⟨v1, v2, e1, TN.of e2 e3 rfl, e4⟩
  · obtain ⟨ws0, hws0⟩ := words_of (dL_size (R := R) (n := n) hs n (Nat.le_refl _))
    have hn := accB_le hd
    have hW := wds R n
    obtain ⟨W, hWe⟩ : ∃ W, (sortW (cL R n) ws0).map Wd.s = W := ⟨_, rfl⟩
    have hperm : W.Perm (dL R n) := by
      rw [← hWe, ← hws0]
      exact (List.mergeSort_perm _ _).map _
    have hlen : W.length ≤ 15 := by
      rw [hperm.length_eq]
      have h2 := dL_le R n
      omega
    have hmem : ∀ j, j < W.length → atT W j ∈ dL R n := fun j hj => by
      have := List.mem_of_getElem? (atT_lt (xs := W) hj)
      exact hperm.mem_iff.1 this
    refine ⟨true, W.length, atT W, ai (W.map fun x => cL R n (kS x)), hlen, fun w v h => ?_, fun w v h => ?_, fun j hj => ?_, fun j hj => dL_size hs n (Nat.le_refl _) _ (hmem j hj), fun _ => ⟨?_, fun h10 => ?_⟩⟩
    · exact (C_SameReasonI v n R w h hs hd).mono fun e w' ⟨v1, v2, ws, e1, e0, e2, e3, e4⟩ => by
        have := map_s_inj (e0.trans hws0.symm)
        subst this
        rw [hWe] at e2 e3
        exact ⟨v1, v2, e1, TN.of e2 e3 (List.length_map _), e4⟩
    · exact (C_SameReasonS v n R w h hs hd).mono fun e w' ⟨v1, v2, W', e1, e2⟩ => by
        have := e2.sp.done hws0
        rw [hWe] at this
        subst this
        exact ⟨v1, v2, e1, TN.of e2.ot e2.oi (List.length_map _), e2.be⟩
    · have h1 := ai_lt (xs := W.map fun x => cL R n (kS x)) (j := j) (by rw [List.length_map]; exact hj)
      rw [List.getElem?_map] at h1
      cases h2 : W[j]? with
      | none => rw [h2] at h1; cases h1
      | some x =>
        rw [h2] at h1
        injection h1 with h1
        have h3 : ai (W.map fun x => cL R n (kS x)) j = cL R n (kS x) := h1.symm
        have := cL_bd R n (kS x)
        rw [h3]
        omega
    · rw [sumF_W, sumW_perm _ hperm, hW.sum]
    · have hin : ∀ k, k < n → inB W.length (atT W) (R k).why = true := fun k hk => by
        obtain ⟨y, hy, hk2⟩ := hW.cov k hk
        have hyW := hperm.mem_iff.2 hy
        obtain ⟨j, hj, hje⟩ := List.mem_iff_getElem.1 hyW
        unfold inB
        refine anyB_of hj ?_
        have e : atT W j = y := by
          have h1 := atT_lt (xs := W) hj
          rw [List.getElem?_eq_getElem hj, hje] at h1
          injection h1 with h1
          exact h1.symm
        rw [e]
        exact (kS_iff _ _).2 hk2
      have hok : ueOk n R W.length (atT W) = true := by
        unfold ueOk
        rw [Bool.and_eq_true, Bool.and_eq_true]
        refine ⟨⟨hd, decide_eq_true (by omega)⟩, allB_iff.2 fun j hj => ?_⟩
        obtain ⟨i, hi, e⟩ := hW.frm _ (hmem j hj)
        rw [e]
        have := (accB_at hd).2 i hi
        unfold acc1 okK at this
        simp only [Bool.and_eq_true] at this
        exact this.1.2
      refine ⟨hok, ?_⟩
      unfold ueL
      rw [if_pos hok]
      have : ∀ k, k ≤ n → unL (ueB W.length (atT W) R) k = [] := by
        intro k
        induction k with
        | zero => intro _; rfl
        | succ k ih =>
          intro hk
          rw [unL_no (by unfold ueB; rw [hin k (by omega)]; rfl)]
          exact ih (by omega)
      exact this n (Nat.le_refl _)
end Go.Proofs.YtmhelhjjadoiaaaGreatDoor
