/- A look that is drawn. No condition but those stated. -/
import Derived.Test.YtmhelhjjadoiaaaGreatDoorCurG
import Derived.Test.YtmhelhjjadoiaaaGreatDoorLkR
namespace Go.Proofs.YtmhelhjjadoiaaaGreatDoor
set_option linter.unusedVariables false
set_option linter.unusedSimpArgs false
open Go.RowKit Go.Sort
theorem C_ofL (B m : Nat) (cs : Array Value) (n cap g : Nat) (w : World) (T : TypeId) (hg : w.heap.size = g) (h : Cu w B m) (hm : m ≤ 1099511627776) (h1 : 1 ≤ n) (hn : n ≤ cs.size) (h2 : n ≤ 200)
    (p : ByteArray → Bool) (hall : cs.toList.all (fun v => isT v && p (unT v)) = true) :
    Calls Tryz.prog 77 #[.pointer (some ⟨B, 0, none⟩), .slice (some ⟨g, 0, none⟩) n cap] (w.alloc (.cells cs T)) fun e w' => ∃ x : ByteArray, e = .returned (.string x) ∧ p x = true ∧ Cu w' B (m + 1) ∧ w.grownBy w' (some B) := by
  subst hg
  have hl := h.lt
  refine (C_ofR B m cs n cap _ _ T (row_lit w cs T) (by omega) (h.alloc _) hm h1 hn h2 p hall).mono ?_
  rintro e w' ⟨x, rfl, hp, hc, hb⟩
  exact ⟨x, rfl, hp, hc, ((Chg.of_below (lo := B) (hi := B + 1) ((Below.refl _ _).alloc (Nat.le_refl _) _)).trans (Chg.of_grown hb)).grown⟩
theorem C_amongLc (B m : Nat) (cs : Array Value) (n cap g : Nat) (w : World) (T : TypeId) (hg : w.heap.size = g) (h : Cu w B m) (hm : m ≤ 1099511627776) (h1 : 1 ≤ n) (hn : n ≤ cs.size) (h2 : n ≤ 200)
    (p : Int → Bool) (hall : cs.toList.all (fun v => isI v && p (unI v)) = true) :
    Calls Tryz.prog 49 #[.pointer (some ⟨B, 0, none⟩), .slice (some ⟨g, 0, none⟩) n cap] (w.alloc (.cells cs T)) fun e w' => ∃ x : Int, e = .returned (.int .i64 x) ∧ p x = true ∧ Cu w' B (m + 1) ∧ w.grownBy w' (some B) := by
  subst hg
  have hl := h.lt
  refine (C_amongR B m cs n cap _ _ T (row_lit w cs T) (by omega) (h.alloc _) hm h1 hn h2 p hall).mono ?_
  rintro e w' ⟨x, rfl, hp, hc, hb⟩
  exact ⟨x, rfl, hp, hc, ((Chg.of_below (lo := B) (hi := B + 1) ((Below.refl _ _).alloc (Nat.le_refl _) _)).trans (Chg.of_grown hb)).grown⟩
def sh20 (x : ByteArray) : Bool := decide (x.size ≤ 20)
theorem sh20_le {x : ByteArray} (h : sh20 x = true) : x.size ≤ 20 := by simpa [sh20] using h
def sm7 (x : Int) : Bool := decide (-3000000 ≤ x) && decide (x ≤ 3000000)
theorem sm7_of {x : Int} (h : sm7 x = true) : -3000000 ≤ x ∧ x ≤ 3000000 := by simpa [sm7] using h
/-- A look as it is drawn. -/
def smK (x : Lk) : Bool := sm7 x.tick && sh20 x.why
theorem smK_of {x : Lk} (h : smK x = true) : (-3000000 ≤ x.tick ∧ x.tick ≤ 3000000) ∧ x.why.size ≤ 20 := by
  unfold smK at h
  rw [Bool.and_eq_true] at h
  exact ⟨sm7_of h.1, sh20_le h.2⟩
theorem smK_mk {x : Lk} (h1 : -3000000 ≤ x.tick) (h2 : x.tick ≤ 3000000) (h3 : sh20 x.why = true) : smK x = true := by
  unfold smK sm7
  rw [Bool.and_eq_true, Bool.and_eq_true, decide_eq_true_eq, decide_eq_true_eq]
  exact ⟨⟨h1, h2⟩, h3⟩
theorem row5_alloc (w : World) (T : TypeId) (x : Lk) : (w.alloc (.cells #[.int .i64 x.tick, .int .i64 x.who, .int .i64 x.rid, .int .i64 x.kind, .string x.why] T)).rowIs w.heap.size T 5 (cK x) :=
  World.rowIs_alloc w #[.int .i64 x.tick, .int .i64 x.who, .int .i64 x.rid, .int .i64 x.kind, .string x.why] T (cK x) (fun i hi => by
    match i, hi with
    | 0, _ => rfl
    | 1, _ => rfl
    | 2, _ => rfl
    | 3, _ => rfl
    | 4, _ => rfl
    | n + 5, h => exact absurd h (by simp))
/-- What the drawing of a look keeps. -/
structure KB (B m g0 gx : Nat) (w W : World) (x : Lk) : Prop where
  cu : Cu W B m
  ch : Chg B (B + 1) w W
  r0 : W.rowIs g0 37 5 (cK (⟨0, 0, 0, 0, (⟨#[]⟩ : ByteArray)⟩ : Lk))
  rx : W.rowIs gx 37 5 (cK x)
  hw : w.heap.size ≤ g0
  l0 : B < g0
  lx : g0 < gx
theorem KB.step {B m m' g0 gx : Nat} {w W W' : World} {x : Lk} (h : KB B m g0 gx w W x) (hc : Chg B (B + 1) W W') (hcu : Cu W' B m') : KB B m' g0 gx w W' x :=
  ⟨hcu, h.ch.trans hc, row_chg h.r0 hc (.inr h.l0), row_chg h.rx hc (.inr (Nat.lt_trans h.l0 h.lx)), h.hw, h.l0, h.lx⟩
theorem KB.cells {B m g0 gx : Nat} {w W : World} {x : Lk} (h : KB B m g0 gx w W x) :
    W.cell? ⟨gx, 0, none⟩ = some (.int .i64 x.tick) ∧ W.cell? ⟨gx, 1, none⟩ = some (.int .i64 x.who) ∧ W.cell? ⟨gx, 2, none⟩ = some (.int .i64 x.rid) ∧ W.cell? ⟨gx, 3, none⟩ = some (.int .i64 x.kind) ∧ W.cell? ⟨gx, 4, none⟩ = some (.string x.why) ∧
    W.frozen? ⟨gx, 0, none⟩ = false ∧ W.frozen? ⟨gx, 1, none⟩ = false ∧ W.frozen? ⟨gx, 2, none⟩ = false ∧ W.frozen? ⟨gx, 3, none⟩ = false ∧ W.frozen? ⟨gx, 4, none⟩ = false :=
  ⟨h.rx.cell (i := 0) (by omega), h.rx.cell (i := 1) (by omega), h.rx.cell (i := 2) (by omega), h.rx.cell (i := 3) (by omega), h.rx.cell (i := 4) (by omega), h.rx.frozen 0, h.rx.frozen 1, h.rx.frozen 2, h.rx.frozen 3, h.rx.frozen 4⟩
theorem KB.cells0 {B m g0 gx : Nat} {w W : World} {x : Lk} (h : KB B m g0 gx w W x) :
    W.cell? ⟨g0, 0, none⟩ = some (.int .i64 0) ∧ W.cell? ⟨g0, 1, none⟩ = some (.int .i64 0) ∧ W.cell? ⟨g0, 2, none⟩ = some (.int .i64 0) ∧ W.cell? ⟨g0, 3, none⟩ = some (.int .i64 0) ∧ W.cell? ⟨g0, 4, none⟩ = some (.string (⟨#[]⟩ : ByteArray)) ∧
    W.frozen? ⟨g0, 0, none⟩ = false ∧ W.frozen? ⟨g0, 1, none⟩ = false ∧ W.frozen? ⟨g0, 2, none⟩ = false ∧ W.frozen? ⟨g0, 3, none⟩ = false ∧ W.frozen? ⟨g0, 4, none⟩ = false :=
  ⟨h.r0.cell (i := 0) (by omega), h.r0.cell (i := 1) (by omega), h.r0.cell (i := 2) (by omega), h.r0.cell (i := 3) (by omega), h.r0.cell (i := 4) (by omega), h.r0.frozen 0, h.r0.frozen 1, h.r0.frozen 2, h.r0.frozen 3, h.r0.frozen 4⟩
set_option maxRecDepth 100000 in
set_option maxHeartbeats 8000000 in
theorem C_look (B m : Nat) (t : Int) (w : World) (hcu : Cu w B m) (hm : m ≤ 900000) (ht0 : -3000000 ≤ t) (ht1 : t ≤ 3000000) :
    Calls Tryz.prog 82 #[.pointer (some ⟨B, 0, none⟩), .int .i64 t] w fun e w' => ∃ x : Lk, e = .returned (.agg #[.int .i64 (x).tick, .int .i64 (x).who, .int .i64 (x).rid, .int .i64 (x).kind, .string (x).why]) ∧ smK x = true ∧ Cu w' B (m + 8) ∧ w.grownBy w' (some B) := by
  have hlt := hcu.lt
  obtain ⟨g0, hg0⟩ : ∃ g, g = w.heap.size := ⟨_, rfl⟩
  obtain ⟨w0, hw0⟩ : ∃ w0, w0 = w.alloc (.cells #[.int .i64 0, .int .i64 0, .int .i64 0, .int .i64 0, .string (⟨#[]⟩ : ByteArray)] 37) := ⟨_, rfl⟩
  have hbw : Below w.heap.size w w0 := by rw [hw0]; (repeat (first | with_reducible exact Below.refl _ _ | with_reducible exact below_regrown _ _ _ | with_reducible refine bel_step0 (by assumption) ?_ | with_reducible refine bel_alloc0 ?_ _ | with_reducible refine bel_regrown0 ?_ _ _ | with_reducible refine bel_regrown ?_ (by first | omega | (simp; done) | (simp; omega)) _ _ | with_reducible refine below_drewN ?_ _ | with_reducible refine Below.drew ?_ | with_reducible refine Below.alloc ?_ (by first | omega | (simp; done) | (simp; omega)) _ | with_reducible refine Below.setCell ?_ (by first | omega | (simp; done) | (simp; omega)) _ | with_reducible refine bel_step (by assumption) (by first | omega | (simp; done) | (simp; omega)) ?_ | with_reducible refine bel_grown (by assumption) (by first | omega | (simp; done) | (simp; omega)) (by first | omega | (simp; done) | (simp; omega)) ?_))
  have r00 : w0.rowIs g0 37 5 (cK (⟨0, 0, 0, 0, (⟨#[]⟩ : ByteArray)⟩ : Lk)) := by rw [hw0, hg0]; exact row5_alloc w _ (⟨0, 0, 0, 0, (⟨#[]⟩ : ByteArray)⟩ : Lk)
  have cu0 := hcu.below hbw
  have HW0 := Lib.hid hw0.symm
  have HZ0 := Lib.hid (show w0.heap.size = g0 + 1 by rw [hw0, hg0]; simp)
  have HG0 := Lib.hid hg0.symm
  have HX := Lib.hid (And.intro hbw (And.intro r00 cu0))
  have hBg : B < g0 := by omega
  have hg0w : w.heap.size ≤ g0 := by omega
  clear hw0 hbw r00 cu0 hcu hg0 hlt
  go_enter Tryz.func82, Tryz.ntmps82
  go_wp2_with fail
  rw [HW0.out, HG0.out]
  refine (C_amongLc B m _ 4 4 _ w0 _ HZ0.out HX.out.2.2 (by omega) (by omega) (by decide) (by omega) sm7 (by decide)).mono ?_; rintro e w1 ⟨a, rfl, ha, cu1, hb1⟩
  have hc1 := Chg.of_grown hb1
  have X1 := Lib.hid (And.intro ((Chg.of_below HX.out.1).trans hc1) (row_chg HX.out.2.1 hc1 (.inr hBg)))
  have z1 := hc1.size
  have z0 := HZ0.out
  have hz1 : g0 + 1 ≤ w1.heap.size := by omega
  clear hc1 hb1 HX HZ0 HG0 HW0 z0 z1 ha
  go_wp2_with fail
  refine (C_amongLc B (m + 1) _ 4 4 _ w1 _ (by rfl) cu1 (by omega) (by omega) (by decide) (by omega) sm7 (by decide)).mono ?_; rintro e w2 ⟨b, rfl, hb, cu2, hb2⟩
  have X2 := Lib.hid (And.intro (X1.out.1.trans (Chg.of_grown hb2)) (row_chg X1.out.2 (Chg.of_grown hb2) (.inr hBg)))
  have hz2 : g0 + 1 ≤ w2.heap.size := Nat.le_trans hz1 hb2.size
  clear hb2 cu1 X1 hz1 hb
  go_wp2_with fail
  refine (C_pick B (m + 2) 3 w2 cu2 (by omega) (by omega) (by omega)).mono ?_; rintro e w3 ⟨c, rfl, _, cu3, hb3⟩
  have X3 := Lib.hid (And.intro (X2.out.1.trans (Chg.of_grown hb3)) (row_chg X2.out.2 (Chg.of_grown hb3) (.inr hBg)))
  have hz3 : g0 + 1 ≤ w3.heap.size := Nat.le_trans hz2 hb3.size
  clear hb3 cu2 X2 hz2
  go_wp2_with fail
  refine (C_ofL B (m + 3) _ 4 4 _ w3 _ (by rfl) cu3 (by omega) (by omega) (by decide) (by omega) sh20 (by decide)).mono ?_; rintro e w4 ⟨s, rfl, hs, cu4, hb4⟩
  have hc4 := Chg.of_grown hb4
  obtain ⟨gx, hgx⟩ : ∃ g, g = w4.heap.size := ⟨_, rfl⟩
  obtain ⟨w5, hw5⟩ : ∃ w5, w5 = w4.alloc (.cells #[.int .i64 t, .int .i64 a, .int .i64 b, .int .i64 c, .string s] 37) := ⟨_, rfl⟩
  have K5 : KB B (m + 4) g0 gx w w5 ⟨t, a, b, c, s⟩ := by
    have z4 := hc4.size
    rw [hw5]
    exact ⟨cu4.alloc _, (X3.out.1.trans hc4).alloc _, row_alloc (row_chg X3.out.2 hc4 (.inr hBg)) _, by rw [hgx]; exact row5_alloc w4 _ ⟨t, a, b, c, s⟩, hg0w, hBg, by omega⟩
  have K5 := Lib.hid K5
  have HS := Lib.hid hs
  have HW5 := Lib.hid hw5.symm
  have HGX := Lib.hid hgx.symm
  clear hw5 hgx hc4 hb4 cu4 cu3 X3 hs hz3
  go_upto_region 2 with fail
  rw [HW5.out, HGX.out]
  clear HW5 HGX
  go_wp2_with fail
  refine (C_pick B _ 90 w5 K5.out.cu (by omega) (by omega) (by omega)).mono ?_; rintro e w7 ⟨r, rfl, ⟨hr0, hr1⟩, cu7, hb7⟩
  have K7 := Lib.hid (K5.out.step (Chg.of_grown hb7) cu7)
  clear cu7 hb7 K5
  by_cases h0 : r = 0
  · subst h0
    (go_wp2_with fail; refine (C_amongLc B (m + 5) _ 2 2 _ w7 _ (by rfl) K7.out.cu (by omega) (by omega) (by decide) (by omega) sm7 (by decide)).mono ?_; rintro e w8 ⟨y, rfl, hy, cu8, hb8⟩; have K8 := Lib.hid (K7.out.step (Chg.of_grown hb8) cu8); have HY := Lib.hid (sm7_of hy); clear cu8 hb8 hy; have hR := K8.out; obtain ⟨x0, x1, x2, x3, x4, f0, f1, f2, f3, f4⟩ := KB.cells hR; obtain ⟨y0, y1, y2, y3, y4, e0, e1, e2, e3, e4⟩ := KB.cells0 hR; have hgn := KB.lx hR; have hgl := (KB.rx hR).lt; have hg0l := (KB.r0 hR).lt; have hgB := KB.l0 hR; have hne := Nat.ne_of_lt hgn; have hne' := hne.symm; clear hR; go_wp2_with fail; (go_light; refine bodyPost_ret (by simp (maxDischargeDepth := 3) [results, Tryz.results82, go_sem, *]; try rfl) rfl ?_; refine ⟨⟨y, a, b, c, s⟩, rfl, (smK_mk HY.out.1 HY.out.2 HS.out), ?_, ?_⟩; (next => ((repeat (first | with_reducible refine Cu.alloc ?_ _ | with_reducible refine Cu.setFar ?_ (by first | omega | (simp; done) | (simp; omega)) _)); exact Cu.mono (KB.cu K8.out) (by omega))); (next => (refine Chg.grown ?_; (repeat (first | with_reducible refine Chg.alloc ?_ _ | with_reducible refine Chg.setNew ?_ (by first | omega | (simp; done) | (simp; omega)) _)); exact KB.ch K8.out))))
  · have h0b : (r == 0) = false := by simpa using h0
    by_cases h1 : r = 1
    · subst h1
      clear h0
      (go_wp2_with fail; refine (C_amongLc B (m + 5) _ 2 2 _ w7 _ (by rfl) K7.out.cu (by omega) (by omega) (by decide) (by omega) sm7 (by decide)).mono ?_; rintro e w8 ⟨y, rfl, hy, cu8, hb8⟩; have K8 := Lib.hid (K7.out.step (Chg.of_grown hb8) cu8); have HY := Lib.hid (sm7_of hy); clear cu8 hb8 hy; have hR := K8.out; obtain ⟨x0, x1, x2, x3, x4, f0, f1, f2, f3, f4⟩ := KB.cells hR; obtain ⟨y0, y1, y2, y3, y4, e0, e1, e2, e3, e4⟩ := KB.cells0 hR; have hgn := KB.lx hR; have hgl := (KB.rx hR).lt; have hg0l := (KB.r0 hR).lt; have hgB := KB.l0 hR; have hne := Nat.ne_of_lt hgn; have hne' := hne.symm; clear hR; go_wp2_with fail; (go_light; refine bodyPost_ret (by simp (maxDischargeDepth := 3) [results, Tryz.results82, go_sem, *]; try rfl) rfl ?_; refine ⟨⟨t, y, b, c, s⟩, rfl, (smK_mk ht0 ht1 HS.out), ?_, ?_⟩; (next => ((repeat (first | with_reducible refine Cu.alloc ?_ _ | with_reducible refine Cu.setFar ?_ (by first | omega | (simp; done) | (simp; omega)) _)); exact Cu.mono (KB.cu K8.out) (by omega))); (next => (refine Chg.grown ?_; (repeat (first | with_reducible refine Chg.alloc ?_ _ | with_reducible refine Chg.setNew ?_ (by first | omega | (simp; done) | (simp; omega)) _)); exact KB.ch K8.out))))
    · have h1b : (r == 1) = false := by simpa using h1
      by_cases h2 : r = 2
      · subst h2
        clear h0 h1
        (go_wp2_with fail; refine (C_amongLc B (m + 5) _ 2 2 _ w7 _ (by rfl) K7.out.cu (by omega) (by omega) (by decide) (by omega) sm7 (by decide)).mono ?_; rintro e w8 ⟨y, rfl, hy, cu8, hb8⟩; have K8 := Lib.hid (K7.out.step (Chg.of_grown hb8) cu8); have HY := Lib.hid (sm7_of hy); clear cu8 hb8 hy; have hR := K8.out; obtain ⟨x0, x1, x2, x3, x4, f0, f1, f2, f3, f4⟩ := KB.cells hR; obtain ⟨y0, y1, y2, y3, y4, e0, e1, e2, e3, e4⟩ := KB.cells0 hR; have hgn := KB.lx hR; have hgl := (KB.rx hR).lt; have hg0l := (KB.r0 hR).lt; have hgB := KB.l0 hR; have hne := Nat.ne_of_lt hgn; have hne' := hne.symm; clear hR; go_wp2_with fail; (go_light; refine bodyPost_ret (by simp (maxDischargeDepth := 3) [results, Tryz.results82, go_sem, *]; try rfl) rfl ?_; refine ⟨⟨t, a, y, c, s⟩, rfl, (smK_mk ht0 ht1 HS.out), ?_, ?_⟩; (next => ((repeat (first | with_reducible refine Cu.alloc ?_ _ | with_reducible refine Cu.setFar ?_ (by first | omega | (simp; done) | (simp; omega)) _)); exact Cu.mono (KB.cu K8.out) (by omega))); (next => (refine Chg.grown ?_; (repeat (first | with_reducible refine Chg.alloc ?_ _ | with_reducible refine Chg.setNew ?_ (by first | omega | (simp; done) | (simp; omega)) _)); exact KB.ch K8.out))))
      · have h2b : (r == 2) = false := by simpa using h2
        by_cases h3 : r = 3
        · subst h3
          clear h0 h1 h2
          (go_wp2_with fail; refine (C_amongLc B (m + 5) _ 2 2 _ w7 _ (by rfl) K7.out.cu (by omega) (by omega) (by decide) (by omega) sm7 (by decide)).mono ?_; rintro e w8 ⟨y, rfl, hy, cu8, hb8⟩; have K8 := Lib.hid (K7.out.step (Chg.of_grown hb8) cu8); have HY := Lib.hid (sm7_of hy); clear cu8 hb8 hy; have hR := K8.out; obtain ⟨x0, x1, x2, x3, x4, f0, f1, f2, f3, f4⟩ := KB.cells hR; obtain ⟨y0, y1, y2, y3, y4, e0, e1, e2, e3, e4⟩ := KB.cells0 hR; have hgn := KB.lx hR; have hgl := (KB.rx hR).lt; have hg0l := (KB.r0 hR).lt; have hgB := KB.l0 hR; have hne := Nat.ne_of_lt hgn; have hne' := hne.symm; clear hR; go_wp2_with fail; (go_light; refine bodyPost_ret (by simp (maxDischargeDepth := 3) [results, Tryz.results82, go_sem, *]; try rfl) rfl ?_; refine ⟨⟨t, a, b, y, s⟩, rfl, (smK_mk ht0 ht1 HS.out), ?_, ?_⟩; (next => ((repeat (first | with_reducible refine Cu.alloc ?_ _ | with_reducible refine Cu.setFar ?_ (by first | omega | (simp; done) | (simp; omega)) _)); exact Cu.mono (KB.cu K8.out) (by omega))); (next => (refine Chg.grown ?_; (repeat (first | with_reducible refine Chg.alloc ?_ _ | with_reducible refine Chg.setNew ?_ (by first | omega | (simp; done) | (simp; omega)) _)); exact KB.ch K8.out))))
        · have h3b : (r == 3) = false := by simpa using h3
          by_cases h4 : r = 4
          · subst h4
            clear h0 h1 h2 h3
            go_wp2_with fail
            refine (C_ofL B (m + 5) _ 3 3 _ w7 _ (by rfl) K7.out.cu (by omega) (by omega) (by decide) (by omega) sh20 (by decide)).mono ?_; rintro e w8 ⟨y, rfl, hy, cu8, hb8⟩
            have K8 := Lib.hid (K7.out.step (Chg.of_grown hb8) cu8)
            have HY := Lib.hid hy
            clear cu8 hb8 hy
            have hR := K8.out
            obtain ⟨x0, x1, x2, x3, x4, f0, f1, f2, f3, f4⟩ := KB.cells hR; obtain ⟨y0, y1, y2, y3, y4, e0, e1, e2, e3, e4⟩ := KB.cells0 hR; have hgn := KB.lx hR; have hgl := (KB.rx hR).lt; have hg0l := (KB.r0 hR).lt; have hgB := KB.l0 hR; have hne := Nat.ne_of_lt hgn; have hne' := hne.symm
            clear hR
            go_wp2_with fail
            (go_light; refine bodyPost_ret (by simp (maxDischargeDepth := 3) [results, Tryz.results82, go_sem, *]; try rfl) rfl ?_; refine ⟨⟨t, a, b, c, y⟩, rfl, (smK_mk ht0 ht1 HY.out), ?_, ?_⟩; (next => ((repeat (first | with_reducible refine Cu.alloc ?_ _ | with_reducible refine Cu.setFar ?_ (by first | omega | (simp; done) | (simp; omega)) _)); exact Cu.mono (KB.cu K8.out) (by omega))); (next => (refine Chg.grown ?_; (repeat (first | with_reducible refine Chg.alloc ?_ _ | with_reducible refine Chg.setNew ?_ (by first | omega | (simp; done) | (simp; omega)) _)); exact KB.ch K8.out)))
          · have h4b : (r == 4) = false := by simpa using h4
            have hR := K7.out
            obtain ⟨x0, x1, x2, x3, x4, f0, f1, f2, f3, f4⟩ := KB.cells hR; obtain ⟨y0, y1, y2, y3, y4, e0, e1, e2, e3, e4⟩ := KB.cells0 hR; have hgn := KB.lx hR; have hgl := (KB.rx hR).lt; have hg0l := (KB.r0 hR).lt; have hgB := KB.l0 hR; have hne := Nat.ne_of_lt hgn; have hne' := hne.symm
            clear hR
            go_wp2_with fail
            (go_light; refine bodyPost_ret (by simp (maxDischargeDepth := 3) [results, Tryz.results82, go_sem, *]; try rfl) rfl ?_; refine ⟨⟨t, a, b, c, s⟩, rfl, (smK_mk ht0 ht1 HS.out), ?_, ?_⟩; (next => ((repeat (first | with_reducible refine Cu.alloc ?_ _ | with_reducible refine Cu.setFar ?_ (by first | omega | (simp; done) | (simp; omega)) _)); exact Cu.mono (KB.cu K7.out) (by omega))); (next => (refine Chg.grown ?_; (repeat (first | with_reducible refine Chg.alloc ?_ _ | with_reducible refine Chg.setNew ?_ (by first | omega | (simp; done) | (simp; omega)) _)); exact KB.ch K7.out)))
end Go.Proofs.YtmhelhjjadoiaaaGreatDoor
