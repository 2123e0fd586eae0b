/- Lives, steps and lists of steps that are drawn. No condition but those stated. -/
import Derived.Test.YtpkgfpgccfnkpaaCurM
import Derived.Test.YtpkgfpgccfnkpaaCode
import Derived.Test.YtpkgfpgccfnkpaaRunB
import Derived.Deep.DrawnRows
namespace Go.Proofs.Ytpkgfpgccfnkpaa
set_option linter.unusedVariables false
set_option linter.unusedSimpArgs false
open Go.RowKit Go.Sort
attribute [local go_sem ↓] Go.wp_at_zero Go.wp_at_succ
def Lf.I (l : Lf) : Prop := I64 l.day ∧ I64 l.state ∧ I64 l.act ∧ I64 l.period ∧ I64 l.closed ∧ I64 l.holds
theorem Lf.I_ok {l : Lf} (h : l.ok = true) : l.I := by
  obtain ⟨day, state, act, period, closed, holds⟩ := l
  obtain ⟨a1, a2, a3, a4, a5, a6, a7, a8, a9, a10, a11, a12⟩ := Lf.bounds h
  refine ⟨?_, ?_, ?_, ?_, ?_, ?_⟩ <;> (unfold I64; simp only; omega)
theorem zeroL_I : zeroL.I := by refine ⟨?_, ?_, ?_, ?_, ?_, ?_⟩ <;> (unfold I64 zeroL; simp only; omega)
theorem newR_I (a p : Int) : (newR a p).I := by
  unfold newR; split
  · rename_i h; exact Lf.I_ok h
  · exact zeroL_I
theorem stepL_I (l : Lf) (k v : Int) : (stepL l k v).I := by
  unfold stepL; split
  · rename_i h
    simp only [canL, Bool.and_eq_true] at h
    exact Lf.I_ok h.2
  · exact zeroL_I
theorem row_chg {w w' : World} {g n : Nat} {T : TypeId} {F : Nat → Value} {lo hi : Nat} (h : w.rowIs g T n F) (hc : Chg lo hi w w') (hr : g < lo ∨ hi ≤ g) : w'.rowIs g T n F := h.of_block (hc.block g h.lt hr)
theorem row6_chgset {w : World} {g : Nat} {lo hi : Nat} {a : World} (hc : Chg lo hi a w) (hg : a.heap.size ≤ g) (l : Lf) :
    Chg lo hi a ((((((w.setCell ⟨g, 0, none⟩ (.int .i64 l.day)).setCell ⟨g, 1, none⟩ (.int .i64 l.state)).setCell ⟨g, 2, none⟩ (.int .i64 l.act)).setCell ⟨g, 3, none⟩ (.int .i64 l.period)).setCell ⟨g, 4, none⟩ (.int .i64 l.closed)).setCell ⟨g, 5, none⟩ (.int .i64 l.holds)) :=
  (((((hc.setNew (p := ⟨g, 0, none⟩) hg _).setNew (p := ⟨g, 1, none⟩) hg _).setNew (p := ⟨g, 2, none⟩) hg _).setNew (p := ⟨g, 3, none⟩) hg _).setNew (p := ⟨g, 4, none⟩) hg _).setNew (p := ⟨g, 5, none⟩) hg _
theorem Chg.alloc {lo hi : Nat} {a b : World} (h : Chg lo hi a b) (o : Obj) : Chg lo hi a (b.alloc o) :=
  h.trans (Chg.of_below ((Below.refl _ _).alloc (Nat.le_refl _) o))
theorem Cu.alloc {w : World} {B m : Nat} (h : Cu w B m) (o : Obj) : Cu (w.alloc o) B m := h.below ((Below.refl _ _).alloc (Nat.le_refl _) o)
theorem Cu.setFar {w : World} {B m : Nat} (h : Cu w B m) {p : Addr} (hp : B < p.block) (u : Value) : Cu (w.setCell p u) B m :=
  h.chg (lo := p.block) (hi := p.block + 1) ((Chg.refl _ _ _).setCell (Nat.le_refl _) (Nat.lt_succ_self _) u) hp
/-- What a draw keeps: the cursor, and a row of its own for the result. -/
structure DL (B m g0 : Nat) (w W : World) : Prop where
  cu : Cu W B m
  ch : Chg B (B + 1) w W
  r0 : W.rowIs g0 25 6 (c6 zeroL)
  lt : B < g0
theorem DL.step {B m m' g0 : Nat} {w W W' : World} (h : DL B m g0 w W) (hc : Chg B (B + 1) W W') (hcu : Cu W' B m') : DL B m' g0 w W' :=
  ⟨hcu, h.ch.trans hc, row_chg h.r0 hc (.inr h.lt), h.lt⟩
theorem DL.below {B m g0 : Nat} {w W W' : World} (h : DL B m g0 w W) (hb : Below W.heap.size W W') : DL B m g0 w W' := h.step (Chg.of_below hb) (h.cu.below hb)
theorem DL.grown {B m m' g0 : Nat} {w W W' : World} (h : DL B m g0 w W) (hg : W.grownBy W' (some B)) (hcu : Cu W' B m') : DL B m' g0 w W' := h.step (Chg.of_grown hg) hcu
theorem DL.agrown {B m m' g0 : Nat} {w W W' : World} {o : Obj} (h : DL B m g0 w W) (hg : (W.alloc o).grownBy W' (some B)) (hcu : Cu W' B m') : DL B m' g0 w W' :=
  h.step ((Chg.of_below ((Below.refl _ _).alloc (Nat.le_refl _) o)).trans (Chg.of_grown hg)) hcu
theorem DL.lts {B m g0 : Nat} {w W : World} (h : DL B m g0 w W) : g0 < W.heap.size := h.r0.lt
theorem DL.ltB {B m g0 : Nat} {w W : World} (h : DL B m g0 w W) : B < W.heap.size := h.cu.lt
/-- A row that was just made, behind a call. -/
theorem row_gdE {G : Prop} {W w' : World} {B : Nat} {T : TypeId} (hb : (W.alloc (.cells #[.int .i64 0, .int .i64 0, .int .i64 0, .int .i64 0, .int .i64 0, .int .i64 0] T)).drew.grownBy w' (some B)) (hn : W.heap.size ≠ B)
    (h : w'.rowIs W.heap.size T 6 (c6 zeroL) → G) : G :=
  h ((row6_alloc W T zeroL).of_block (hb.block W.heap.size (by simp) (by intro h; injection h with h; exact hn h)))
theorem row_bE {G : Prop} {W w' : World} (hb : Below W.heap.size W w') {g : Nat} {T : TypeId} {F : Nat → Value} {n : Nat} (hg : W.rowIs g T n F) (h : w'.rowIs g T n F → G) : G := h (hg.of_block (hb.block g hg.lt))
theorem row_nE {G : Prop} {W w' : World} {T : TypeId} (hb : Below (W.alloc (.cells #[.int .i64 0, .int .i64 0, .int .i64 0, .int .i64 0, .int .i64 0, .int .i64 0] T)).heap.size (W.alloc (.cells #[.int .i64 0, .int .i64 0, .int .i64 0, .int .i64 0, .int .i64 0, .int .i64 0] T)) w')
    (h : w'.rowIs W.heap.size T 6 (c6 zeroL) → G) : G := h ((row6_alloc W T zeroL).of_block (hb.block W.heap.size (by simp)))
theorem C_StepLifeX (day state act period closed holds : Int) (k v : Int) (w : World) (hi : I64 v) :
    Calls Try.prog 23 #[.agg #[.int .i64 day, .int .i64 state, .int .i64 act, .int .i64 period, .int .i64 closed, .int .i64 holds], .agg #[.int .i64 k, .int .i64 v]] w fun e w' => ∃ (L1 : Lf) (b : Bool), e = .returned (.tuple #[.agg #[.int .i64 (L1).day, .int .i64 (L1).state, .int .i64 (L1).act, .int .i64 (L1).period, .int .i64 (L1).closed, .int .i64 (L1).holds], .bool b]) ∧ L1.I ∧ Below w.heap.size w w' :=
  (C_StepLifeS _ _ _ _ _ _ k v w hi).mono fun e w' ⟨h1, h2⟩ => ⟨_, _, h1, stepL_I _ _ _, h2⟩
theorem row_alloc {w : World} {g n : Nat} {T : TypeId} {F : Nat → Value} (h : w.rowIs g T n F) (o : Obj) : (w.alloc o).rowIs g T n F := h.of_block (Below.heap_alloc _ _ _ h.lt)
theorem DL.alloc {B m g0 : Nat} {w W : World} (h : DL B m g0 w W) (o : Obj) : DL B m g0 w (W.alloc o) := h.below ((Below.refl _ _).alloc (Nat.le_refl _) o)
theorem DL.set6 {B m g0 gl : Nat} {w W : World} (h : DL B m g0 w W) (hg : g0 < gl) (hB : B < gl) (hw : w.heap.size ≤ gl) (l : Lf) :
    DL B m g0 w ((((((W.setCell ⟨gl, 0, none⟩ (.int .i64 l.day)).setCell ⟨gl, 1, none⟩ (.int .i64 l.state)).setCell ⟨gl, 2, none⟩ (.int .i64 l.act)).setCell ⟨gl, 3, none⟩ (.int .i64 l.period)).setCell ⟨gl, 4, none⟩ (.int .i64 l.closed)).setCell ⟨gl, 5, none⟩ (.int .i64 l.holds)) :=
  ⟨(((((h.cu.setFar hB _).setFar hB _).setFar hB _).setFar hB _).setFar hB _).setFar hB _, row6_chgset h.ch hw l,
    (((((h.r0.setOther (a := ⟨gl, 0, none⟩) (by simp; omega) _).setOther (a := ⟨gl, 1, none⟩) (by simp; omega) _).setOther (a := ⟨gl, 2, none⟩) (by simp; omega) _).setOther (a := ⟨gl, 3, none⟩) (by simp; omega) _).setOther (a := ⟨gl, 4, none⟩) (by simp; omega) _).setOther (a := ⟨gl, 5, none⟩) (by simp; omega) _, h.lt⟩
set_option maxHeartbeats 4000000 in
theorem C_life (B m : Nat) (w : World) (hcu : Cu w B m) (hm : m ≤ 900000) :
    Calls Try.prog 47 #[.pointer (some ⟨B, 0, none⟩)] w fun e w' => ∃ L : Lf, e = .returned (.agg #[.int .i64 (L).day, .int .i64 (L).state, .int .i64 (L).act, .int .i64 (L).period, .int .i64 (L).closed, .int .i64 (L).holds]) ∧ L.I ∧ Cu w' B (m + 100) ∧ w.grownBy w' (some B) := by
  have hlt := hcu.lt
  obtain ⟨g0, hg0⟩ : ∃ g, g = w.heap.size := ⟨_, rfl⟩
  obtain ⟨w0, hw0⟩ : ∃ w0, w0 = w.alloc (.cells #[.int .i64 0, .int .i64 0, .int .i64 0, .int .i64 0, .int .i64 0, .int .i64 0] 25) := ⟨_, rfl⟩
  have hbw : Below w.heap.size w w0 := by rw [hw0]; (repeat (first | with_reducible exact Below.refl _ _ | with_reducible exact below_regrown _ _ _ | with_reducible refine bel_step0 (by assumption) ?_ | with_reducible refine bel_alloc0 ?_ _ | with_reducible refine bel_regrown0 ?_ _ _ | with_reducible refine bel_regrown ?_ (by first | omega | (simp; done) | (simp; omega)) _ _ | with_reducible refine below_drewN ?_ _ | with_reducible refine Below.drew ?_ | with_reducible refine Below.alloc ?_ (by first | omega | (simp; done) | (simp; omega)) _ | with_reducible refine Below.setCell ?_ (by first | omega | (simp; done) | (simp; omega)) _ | with_reducible refine bel_step (by assumption) (by first | omega | (simp; done) | (simp; omega)) ?_ | with_reducible refine bel_grown (by assumption) (by first | omega | (simp; done) | (simp; omega)) (by first | omega | (simp; done) | (simp; omega)) ?_))
  have D0 := Lib.hid (DL.mk (m := m) (g0 := g0) (w := w) (hcu.below hbw) (Chg.of_below hbw) (by rw [hw0, hg0]; exact row6_alloc w 25 zeroL) (by rw [hg0]; exact hlt))
  have HW0 := Lib.hid hw0
  have hg0w : w.heap.size ≤ g0 := by omega
  have HG0 := Lib.hid hg0
  clear hw0 hbw hcu hg0 hlt
  go_enter Try.func47, Try.ntmps47
  go_wp2_with fail
  rw [← HW0.out, ← HG0.out]
  refine (C_pick B m 3 w0 D0.out.cu (by omega) (by omega) (by omega)).mono ?_; rintro e w1 ⟨r, rfl, ⟨hr0, hr1⟩, hcu1, hg1⟩
  have D1 := Lib.hid (D0.out.grown hg1 hcu1)
  clear hcu1 hg1 HW0 HG0 D0
  go_wp2_with fail
  refine (C_amongA B (m + 1) _ _ _ w1 (by rfl) D1.out.cu (by omega) (by rfl) (by omega) (by omega) (by rfl)).mono ?_; rintro e w2 ⟨p, rfl, _, hcu2, hg2⟩
  have D2 := Lib.hid (D1.out.agrown hg2 hcu2)
  clear hcu2 hg2 D1
  go_wp2_with fail
  refine (C_NewLifeS _ _ _).mono ?_; rintro e w3 ⟨rfl, hb3⟩
  have D3 := Lib.hid (D2.out.below hb3)
  clear hb3 D2
  obtain ⟨L, hL⟩ : ∃ L, newR (1 + r) p = L := ⟨_, rfl⟩
  have hLI : L.I := by rw [← hL]; exact newR_I _ _
  rw [hL]
  clear hL
  obtain ⟨gl, hgl⟩ : ∃ g, g = w3.heap.size := ⟨_, rfl⟩
  obtain ⟨w4, hw4⟩ : ∃ w4, w4 = w3.alloc (.cells #[.int .i64 L.day, .int .i64 L.state, .int .i64 L.act, .int .i64 L.period, .int .i64 L.closed, .int .i64 L.holds] 25) := ⟨_, rfl⟩
  have hgl0 : g0 < gl := by rw [hgl]; exact D3.out.lts
  have hglB : B < gl := by rw [hgl]; exact D3.out.ltB
  have hglw : w.heap.size ≤ gl := by rw [hgl]; exact D3.out.ch.size
  have D4 := Lib.hid (D3.out.below (W' := w4) (by rw [hw4]; (repeat (first | with_reducible exact Below.refl _ _ | with_reducible exact below_regrown _ _ _ | with_reducible refine bel_step0 (by assumption) ?_ | with_reducible refine bel_alloc0 ?_ _ | with_reducible refine bel_regrown0 ?_ _ _ | with_reducible refine bel_regrown ?_ (by first | omega | (simp; done) | (simp; omega)) _ _ | with_reducible refine below_drewN ?_ _ | with_reducible refine Below.drew ?_ | with_reducible refine Below.alloc ?_ (by first | omega | (simp; done) | (simp; omega)) _ | with_reducible refine Below.setCell ?_ (by first | omega | (simp; done) | (simp; omega)) _ | with_reducible refine bel_step (by assumption) (by first | omega | (simp; done) | (simp; omega)) ?_ | with_reducible refine bel_grown (by assumption) (by first | omega | (simp; done) | (simp; omega)) (by first | omega | (simp; done) | (simp; omega)) ?_))))
  have L4 := Lib.hid (show w4.rowIs gl 25 6 (c6 L) by rw [hw4, hgl]; exact row6_alloc w3 _ L)
  have HW4 := Lib.hid hw4
  have HGL := Lib.hid hgl
  clear hw4 hgl D3
  go_wp2_with fail
  rw [← HW4.out, ← HGL.out]
  refine (C_pick B (m + 1 + 1) 16 w4 D4.out.cu (by omega) (by omega) (by omega)).mono ?_; rintro e w5 ⟨n, rfl, ⟨hn0, hn1⟩, hcu5, hg5⟩
  have L5 := Lib.hid (row_chg L4.out (Chg.of_grown hg5) (.inr hglB))
  have D5 := Lib.hid (D4.out.grown hg5 hcu5)
  have HLI := Lib.hid hLI
  clear hcu5 hg5 HW4 HGL D4 L4 hLI
  go_wp2
  go_loopw [5] (fun i wr => ∃ (k : Nat) (L : Lf), k ≤ 15 ∧ i = .int .i64 k ∧ L.I ∧ wr.rowIs gl 25 6 (c6 L) ∧ DL B (m + 3 + 5 * (15 - k)) g0 w wr) (fun i _ => (intOf i).toNat)
  case atStart => exact ⟨n.toNat, L, by omega, by rw [Int.toNat_of_nonneg hn0], HLI.out, L5.out, D5.out.step (Chg.refl _ _ _) (D5.out.cu.mono (by omega))⟩
  case round =>
    clear D5 L5 HLI hn0 hn1 hr0 hr1
    obtain ⟨k, L, hk, rfl, hLI, hL, hD⟩ := hrel
    have HLI := Lib.hid hLI
    have HL := Lib.hid hL
    have HD := Lib.hid hD
    have hcu := hD.cu
    have hltB := hD.ltB
    have hlt0 := hD.lts
    have hltl := hL.lt
    have r : ∀ W, Chg B (B + 1) wr W → W.cell? ⟨gl, 0, none⟩ = some (.int .i64 L.day) ∧ W.cell? ⟨gl, 1, none⟩ = some (.int .i64 L.state) ∧ W.cell? ⟨gl, 2, none⟩ = some (.int .i64 L.act) ∧ W.cell? ⟨gl, 3, none⟩ = some (.int .i64 L.period) ∧ W.cell? ⟨gl, 4, none⟩ = some (.int .i64 L.closed) ∧ W.cell? ⟨gl, 5, none⟩ = some (.int .i64 L.holds) := fun W hW => by
      have h := row_chg HL.out hW (.inr (by omega))
      have x0 := (h).cell (i := 0) (by omega); have x1 := (h).cell (i := 1) (by omega); have x2 := (h).cell (i := 2) (by omega); have x3 := (h).cell (i := 3) (by omega); have x4 := (h).cell (i := 4) (by omega); have x5 := (h).cell (i := 5) (by omega); simp only [c6, if_true, if_false, Nat.reduceEqDiff, reduceCtorEq] at x0 x1 x2 x3 x4 x5
      exact ⟨x0, x1, x2, x3, x4, x5⟩
    obtain ⟨x0, x1, x2, x3, x4, x5⟩ := r wr (Chg.refl _ _ _)
    clear hLI hL hD
    by_cases hlt : 0 < k
    · have hlt2 : (0 : Int) < (k : Int) := by omega
      have hk1 : Value.int .i64 ((k : Int) - 1) = .int .i64 ((k - 1 : Nat) : Int) := by rw [show ((k - 1 : Nat) : Int) = (k : Int) - 1 by omega]
      have HK1 := Lib.hid hk1
      clear hk1
      have hB1 : B + 1 ≤ gl := by omega
      have hk15 : k - 1 ≤ 15 := by omega
      have hM : m + 3 + 5 * (15 - k) + 5 ≤ m + 3 + 5 * (15 - (k - 1)) := by omega
      have hneB : wr.heap.size ≠ B := by omega
      have hcu5 := hcu.mono (m' := m + 3 + 5 * (15 - k) + 5) (by omega)
      have hm0 : gl ≠ wr.heap.size := by omega
      have hm5 := hm0.symm
      have f0 := HL.out.frozen 0
      have rf : ∀ W, Chg B (B + 1) wr W → W.frozen? ⟨gl, 0, none⟩ = false ∧ W.frozen? ⟨gl, 1, none⟩ = false ∧ W.frozen? ⟨gl, 2, none⟩ = false ∧ W.frozen? ⟨gl, 3, none⟩ = false ∧ W.frozen? ⟨gl, 4, none⟩ = false ∧ W.frozen? ⟨gl, 5, none⟩ = false := fun W hW => by
        have h := row_chg HL.out hW (.inr (by omega))
        exact ⟨h.frozen 0, h.frozen 1, h.frozen 2, h.frozen 3, h.frozen 4, h.frozen 5⟩
      go_upto_region 5 with fail
      go_region_held3 (fun W => Chg B (B + 1) wr W ∧ Cu W B (m + 3 + 5 * (15 - k) + 5)) (((refine ⟨?_, ?_⟩; (repeat (first | with_reducible assumption | with_reducible exact Chg.refl _ _ _ | with_reducible refine Chg.drew ?_ | with_reducible refine Chg.alloc ?_ _ | with_reducible refine Chg.setNew ?_ (by first | omega | (simp; done) | (simp; omega)) _)); (repeat (first | with_reducible assumption | with_reducible refine Cu.drew ?_ | with_reducible refine Cu.alloc ?_ _ | with_reducible refine Cu.setFar ?_ (by first | omega | (simp; done) | (simp; omega)) _))))) (first | (go_at_call 48; refine (C_lifeStep B (m + 3 + 5 * (15 - k)) _ _ _ _ _ _ _ (by first | exact hcu | exact Cu.below (by (repeat (first | with_reducible exact Below.refl _ _ | with_reducible exact below_regrown _ _ _ | with_reducible refine bel_step0 (by assumption) ?_ | with_reducible refine bel_alloc0 ?_ _ | with_reducible refine bel_regrown0 ?_ _ _ | with_reducible refine bel_regrown ?_ (by first | omega | (simp; done) | (simp; omega)) _ _ | with_reducible refine below_drewN ?_ _ | with_reducible refine Below.drew ?_ | with_reducible refine Below.alloc ?_ (by first | omega | (simp; done) | (simp; omega)) _ | with_reducible refine Below.setCell ?_ (by first | omega | (simp; done) | (simp; omega)) _ | with_reducible refine bel_step (by assumption) (by first | omega | (simp; done) | (simp; omega)) ?_ | with_reducible refine bel_grown (by assumption) (by first | omega | (simp; done) | (simp; omega)) (by first | omega | (simp; done) | (simp; omega)) ?_))) hcu) (by omega) HLI.out.2.2.2.1).mono ?_; rintro e w' ⟨kk, vv, rfl, hvv, hcu', hb'⟩; have hq : Chg B (B + 1) wr w' := Chg.trans (by (repeat (first | with_reducible assumption | with_reducible exact Chg.refl _ _ _ | with_reducible refine Chg.drew ?_ | with_reducible refine Chg.alloc ?_ _ | with_reducible refine Chg.setNew ?_ (by first | omega | (simp; done) | (simp; omega)) _))) (Chg.of_grown hb'); have hqz := hq.size; have hm1 : gl ≠ w'.heap.size := (by omega); have hlt3 : gl < w'.heap.size := (by omega); have hm2 := hm1.symm; (first | refine row_gdE hb' hneB (fun hk => ?_) | skip)) | (go_at_call 23; refine (C_StepLifeX _ _ _ _ _ _ _ _ _ (by assumption)).mono ?_; rintro e w' ⟨L1, b1, rfl, hL1, hb'⟩; have hq2 : Chg B (B + 1) wr w' := Chg.trans (by (repeat (first | with_reducible assumption | with_reducible exact Chg.refl _ _ _ | with_reducible refine Chg.drew ?_ | with_reducible refine Chg.alloc ?_ _ | with_reducible refine Chg.setNew ?_ (by first | omega | (simp; done) | (simp; omega)) _))) (Chg.of_below hb'); have hcu2 := hcu'.below (w' := w') (by (repeat (first | with_reducible exact Below.refl _ _ | with_reducible exact below_regrown _ _ _ | with_reducible refine bel_step0 (by assumption) ?_ | with_reducible refine bel_alloc0 ?_ _ | with_reducible refine bel_regrown0 ?_ _ _ | with_reducible refine bel_regrown ?_ (by first | omega | (simp; done) | (simp; omega)) _ _ | with_reducible refine below_drewN ?_ _ | with_reducible refine Below.drew ?_ | with_reducible refine Below.alloc ?_ (by first | omega | (simp; done) | (simp; omega)) _ | with_reducible refine Below.setCell ?_ (by first | omega | (simp; done) | (simp; omega)) _ | with_reducible refine bel_step (by assumption) (by first | omega | (simp; done) | (simp; omega)) ?_ | with_reducible refine bel_grown (by assumption) (by first | omega | (simp; done) | (simp; omega)) (by first | omega | (simp; done) | (simp; omega)) ?_))); obtain ⟨q0, q1, q2, q3, q4, q5⟩ := r _ hq2; obtain ⟨z0, z1, z2, z3, z4, z5⟩ := rf _ hq2; have hqy := hq2.size; have hm3 : gl ≠ w'.heap.size := (by omega); have hlt4 : gl < w'.heap.size := (by omega); have hm4 := hm3.symm; (first | (refine row_bE hb' hk (fun hj => ?_); (have y0 := (hj).cell (i := 0) (by omega); have y1 := (hj).cell (i := 1) (by omega); have y2 := (hj).cell (i := 2) (by omega); have y3 := (hj).cell (i := 3) (by omega); have y4 := (hj).cell (i := 4) (by omega); have y5 := (hj).cell (i := 5) (by omega); simp only [c6, if_true, if_false, Nat.reduceEqDiff, reduceCtorEq] at y0 y1 y2 y3 y4 y5; simp only [zeroL] at y0 y1 y2 y3 y4 y5; have f0 := hj.frozen 0; have f1 := hj.frozen 1; have f2 := hj.frozen 2; have f3 := hj.frozen 3; have f4 := hj.frozen 4; have f5 := hj.frozen 5; have hjl := hj.lt)) | (refine row_nE hb' (fun hj => ?_); (have y0 := (hj).cell (i := 0) (by omega); have y1 := (hj).cell (i := 1) (by omega); have y2 := (hj).cell (i := 2) (by omega); have y3 := (hj).cell (i := 3) (by omega); have y4 := (hj).cell (i := 4) (by omega); have y5 := (hj).cell (i := 5) (by omega); simp only [c6, if_true, if_false, Nat.reduceEqDiff, reduceCtorEq] at y0 y1 y2 y3 y4 y5; simp only [zeroL] at y0 y1 y2 y3 y4 y5; have f0 := hj.frozen 0; have f1 := hj.frozen 1; have f2 := hj.frozen 2; have f3 := hj.frozen 3; have f4 := hj.frozen 4; have f5 := hj.frozen 5; have hjl := hj.lt)) | skip)))
      all_goals (rename_i hS; have HS := Lib.hid hS; clear hS)
      all_goals cases b1
      · go_wp2
        go_roundw
        case rel => exact ⟨k - 1, L, hk15, HK1.out, HLI.out, row_chg HL.out HS.out.1 (.inr hB1), HD.out.step HS.out.1 (HS.out.2.mono hM)⟩
        case measure => simp [intOf]; omega
      · go_wp2
        go_roundw
        case rel => exact ⟨k - 1, L1, hk15, HK1.out, hL1, row_alloc (row6_set L1 (row_chg HL.out hq2 (.inr hB1))) _, DL.alloc (DL.set6 (HD.out.step hq2 (hcu2.mono hM)) hgl0 hglB hglw L1) _⟩
        case measure => simp [intOf]; omega
      · go_wp2
        go_roundw
        case rel => exact ⟨k - 1, L, hk15, HK1.out, HLI.out, row_chg HL.out HS.out.1 (.inr hB1), HD.out.step HS.out.1 (HS.out.2.mono hM)⟩
        case measure => simp [intOf]; omega
      · go_wp2
        go_roundw
        case rel => exact ⟨k - 1, L1, hk15, HK1.out, hL1, row6_set L1 (row_chg HL.out HS.out.1 (.inr hB1)), DL.set6 (HD.out.step HS.out.1 (HS.out.2.mono hM)) hgl0 hglB hglw L1⟩
        case measure => simp [intOf]; omega
      · go_wp2
        go_roundw
        case rel => exact ⟨k - 1, L, hk15, HK1.out, HLI.out, row_chg HL.out HS.out.1 (.inr hB1), HD.out.step HS.out.1 (HS.out.2.mono hM)⟩
        case measure => simp [intOf]; omega
      · go_wp2
        go_roundw
        case rel => exact ⟨k - 1, L1, hk15, HK1.out, hL1, row6_set L1 (row_chg HL.out HS.out.1 (.inr hB1)), DL.set6 (HD.out.step HS.out.1 (HS.out.2.mono hM)) hgl0 hglB hglw L1⟩
        case measure => simp [intOf]; omega
    · obtain rfl : k = 0 := by omega
      clear r x0 x1 x2 x3 x4 x5
      have hz : ¬ (0 : Int) < ((0 : Nat) : Int) := by omega
      go_wp2_with fail
      refine (C_pick B (m + 3 + 5 * (15 - 0)) 32 _ hcu (by omega) (by omega) (by omega)).mono ?_; rintro e w7 ⟨r, rfl, ⟨hr0, hr1⟩, hcu7, hg7⟩
      have D7 := Lib.hid (HD.out.grown hg7 hcu7)
      have L7 := Lib.hid (row_chg HL.out (Chg.of_grown hg7) (.inr hglB))
      obtain ⟨day, state, act, period, closed, holds⟩ := L
      obtain ⟨i0, i1, i2, i3, i4, i5⟩ := HLI.out
      simp only at i0 i1 i2 i3 i4 i5
      have HI := Lib.hid (And.intro i0 (And.intro i1 (And.intro i2 (And.intro i3 (And.intro i4 i5)))))
      clear hcu7 hg7 hcu hltB hlt0 hltl i0 i1 i2 i3 i4 i5 HL HD
      have rr : ∀ W, Chg B (B + 1) w7 W → W.cell? ⟨gl, 0, none⟩ = some (.int .i64 day) ∧ W.cell? ⟨gl, 1, none⟩ = some (.int .i64 state) ∧ W.cell? ⟨gl, 2, none⟩ = some (.int .i64 act) ∧ W.cell? ⟨gl, 3, none⟩ = some (.int .i64 period) ∧ W.cell? ⟨gl, 4, none⟩ = some (.int .i64 closed) ∧ W.cell? ⟨gl, 5, none⟩ = some (.int .i64 holds) ∧
          W.frozen? ⟨gl, 0, none⟩ = false ∧ W.frozen? ⟨gl, 1, none⟩ = false ∧ W.frozen? ⟨gl, 2, none⟩ = false ∧ W.frozen? ⟨gl, 5, none⟩ = false ∧
          W.cell? ⟨g0, 0, none⟩ = some (.int .i64 0) ∧ W.cell? ⟨g0, 1, none⟩ = some (.int .i64 0) ∧ W.cell? ⟨g0, 2, none⟩ = some (.int .i64 0) ∧ W.cell? ⟨g0, 3, none⟩ = some (.int .i64 0) ∧ W.cell? ⟨g0, 4, none⟩ = some (.int .i64 0) ∧ W.cell? ⟨g0, 5, none⟩ = some (.int .i64 0) ∧
          W.frozen? ⟨g0, 0, none⟩ = false ∧ W.frozen? ⟨g0, 1, none⟩ = false ∧ W.frozen? ⟨g0, 2, none⟩ = false ∧ W.frozen? ⟨g0, 3, none⟩ = false ∧ W.frozen? ⟨g0, 4, none⟩ = false ∧ W.frozen? ⟨g0, 5, none⟩ = false := fun W hW => by
        have h := row_chg L7.out hW (.inr (by omega))
        have h0 := row_chg D7.out.r0 hW (.inr (by have := D7.out.lt; omega))
        have x0 := (h).cell (i := 0) (by omega); have x1 := (h).cell (i := 1) (by omega); have x2 := (h).cell (i := 2) (by omega); have x3 := (h).cell (i := 3) (by omega); have x4 := (h).cell (i := 4) (by omega); have x5 := (h).cell (i := 5) (by omega); simp only [c6, if_true, if_false, Nat.reduceEqDiff, reduceCtorEq] at x0 x1 x2 x3 x4 x5
        have y0 := (h0).cell (i := 0) (by omega); have y1 := (h0).cell (i := 1) (by omega); have y2 := (h0).cell (i := 2) (by omega); have y3 := (h0).cell (i := 3) (by omega); have y4 := (h0).cell (i := 4) (by omega); have y5 := (h0).cell (i := 5) (by omega); simp only [c6, if_true, if_false, Nat.reduceEqDiff, reduceCtorEq] at y0 y1 y2 y3 y4 y5
        exact ⟨x0, x1, x2, x3, x4, x5, h.frozen 0, h.frozen 1, h.frozen 2, h.frozen 5, y0, y1, y2, y3, y4, y5, h0.frozen 0, h0.frozen 1, h0.frozen 2, h0.frozen 3, h0.frozen 4, h0.frozen 5⟩
      have RR := Lib.hid rr
      clear rr
      have hgn : gl ≠ g0 := by omega
      have hgn' := hgn.symm
      have hB0 : B < g0 := D7.out.lt
      (obtain ⟨x0, x1, x2, x3, x4, x5, z0, z1, z2, z5, y0, y1, y2, y3, y4, y5, v0, v1, v2, v3, v4, v5⟩ := RR.out w7 (Chg.refl _ _ _))
      go_wp2_with fail
      · (clear x0 x1 x2 x3 x4 x5 z0 z1 z2 z5 y0 y1 y2 y3 y4 y5 v0 v1 v2 v3 v4 v5)
        refine (C_amongA B _ _ _ _ w7 (by rfl) D7.out.cu (by omega) (by rfl) (by omega) (by omega) (by rfl)).mono ?_; rintro e w8 ⟨x, rfl, hx, hcu8, hg8⟩
        have ix : I64 x := list_I64 hx (by simp [I64, unI])
        have hC8 : Chg B (B + 1) w7 w8 := (Chg.of_below (by (repeat (first | with_reducible exact Below.refl _ _ | with_reducible exact below_regrown _ _ _ | with_reducible refine bel_step0 (by assumption) ?_ | with_reducible refine bel_alloc0 ?_ _ | with_reducible refine bel_regrown0 ?_ _ _ | with_reducible refine bel_regrown ?_ (by first | omega | (simp; done) | (simp; omega)) _ _ | with_reducible refine below_drewN ?_ _ | with_reducible refine Below.drew ?_ | with_reducible refine Below.alloc ?_ (by first | omega | (simp; done) | (simp; omega)) _ | with_reducible refine Below.setCell ?_ (by first | omega | (simp; done) | (simp; omega)) _ | with_reducible refine bel_step (by assumption) (by first | omega | (simp; done) | (simp; omega)) ?_ | with_reducible refine bel_grown (by assumption) (by first | omega | (simp; done) | (simp; omega)) (by first | omega | (simp; done) | (simp; omega)) ?_)))).trans (Chg.of_grown hg8)
        clear hx
        (have D8 := Lib.hid (D7.out.step hC8 hcu8); clear hcu8 hg8; (obtain ⟨x0, x1, x2, x3, x4, x5, z0, z1, z2, z5, y0, y1, y2, y3, y4, y5, v0, v1, v2, v3, v4, v5⟩ := RR.out w8 hC8); clear hC8; go_wp2_with fail; (go_light; refine bodyPost_ret (by simp (maxDischargeDepth := 3) [results, Try.results47, go_sem, *]; try rfl) rfl ?_; refine ⟨⟨_, _, _, _, _, _⟩, rfl, ⟨ix, HI.out.2⟩, (by (repeat (first | with_reducible refine Cu.setFar ?_ (by first | exact hglB | exact hB0) _ | exact Cu.mono (D8.out).cu (by omega)))), Chg.grown (by (repeat (first | with_reducible exact (D8.out).ch | with_reducible refine Chg.setNew ?_ (by first | exact hglw | exact hg0w) _)))⟩))
      · (clear x0 x1 x2 x3 x4 x5 z0 z1 z2 z5 y0 y1 y2 y3 y4 y5 v0 v1 v2 v3 v4 v5)
        refine (C_pick B _ 6 w7 D7.out.cu (by omega) (by omega) (by omega)).mono ?_; rintro e w8 ⟨x, rfl, ⟨hx0, hx1⟩, hcu8, hg8⟩
        have ix : I64 x := by unfold I64; omega
        have hC8 : Chg B (B + 1) w7 w8 := Chg.of_grown hg8
        (have D8 := Lib.hid (D7.out.step hC8 hcu8); clear hcu8 hg8; (obtain ⟨x0, x1, x2, x3, x4, x5, z0, z1, z2, z5, y0, y1, y2, y3, y4, y5, v0, v1, v2, v3, v4, v5⟩ := RR.out w8 hC8); clear hC8; go_wp2_with fail; (go_light; refine bodyPost_ret (by simp (maxDischargeDepth := 3) [results, Try.results47, go_sem, *]; try rfl) rfl ?_; refine ⟨⟨_, _, _, _, _, _⟩, rfl, ⟨HI.out.1, ix, HI.out.2.2⟩, (by (repeat (first | with_reducible refine Cu.setFar ?_ (by first | exact hglB | exact hB0) _ | exact Cu.mono (D8.out).cu (by omega)))), Chg.grown (by (repeat (first | with_reducible exact (D8.out).ch | with_reducible refine Chg.setNew ?_ (by first | exact hglw | exact hg0w) _)))⟩))
      · (clear x0 x1 x2 x3 x4 x5 z0 z1 z2 z5 y0 y1 y2 y3 y4 y5 v0 v1 v2 v3 v4 v5)
        refine (C_amongA B _ _ _ _ w7 (by rfl) D7.out.cu (by omega) (by rfl) (by omega) (by omega) (by rfl)).mono ?_; rintro e w8 ⟨x, rfl, hx, hcu8, hg8⟩
        have ix : I64 x := list_I64 hx (by simp [I64, unI])
        have hC8 : Chg B (B + 1) w7 w8 := (Chg.of_below (by (repeat (first | with_reducible exact Below.refl _ _ | with_reducible exact below_regrown _ _ _ | with_reducible refine bel_step0 (by assumption) ?_ | with_reducible refine bel_alloc0 ?_ _ | with_reducible refine bel_regrown0 ?_ _ _ | with_reducible refine bel_regrown ?_ (by first | omega | (simp; done) | (simp; omega)) _ _ | with_reducible refine below_drewN ?_ _ | with_reducible refine Below.drew ?_ | with_reducible refine Below.alloc ?_ (by first | omega | (simp; done) | (simp; omega)) _ | with_reducible refine Below.setCell ?_ (by first | omega | (simp; done) | (simp; omega)) _ | with_reducible refine bel_step (by assumption) (by first | omega | (simp; done) | (simp; omega)) ?_ | with_reducible refine bel_grown (by assumption) (by first | omega | (simp; done) | (simp; omega)) (by first | omega | (simp; done) | (simp; omega)) ?_)))).trans (Chg.of_grown hg8)
        clear hx
        (have D8 := Lib.hid (D7.out.step hC8 hcu8); clear hcu8 hg8; (obtain ⟨x0, x1, x2, x3, x4, x5, z0, z1, z2, z5, y0, y1, y2, y3, y4, y5, v0, v1, v2, v3, v4, v5⟩ := RR.out w8 hC8); clear hC8; go_wp2_with fail; (go_light; refine bodyPost_ret (by simp (maxDischargeDepth := 3) [results, Try.results47, go_sem, *]; try rfl) rfl ?_; refine ⟨⟨_, _, _, _, _, _⟩, rfl, ⟨HI.out.1, HI.out.2.1, HI.out.2.2.1, HI.out.2.2.2.1, HI.out.2.2.2.2.1, ix⟩, (by (repeat (first | with_reducible refine Cu.setFar ?_ (by first | exact hglB | exact hB0) _ | exact Cu.mono (D8.out).cu (by omega)))), Chg.grown (by (repeat (first | with_reducible exact (D8.out).ch | with_reducible refine Chg.setNew ?_ (by first | exact hglw | exact hg0w) _)))⟩))
      · (clear x0 x1 x2 x3 x4 x5 z0 z1 z2 z5 y0 y1 y2 y3 y4 y5 v0 v1 v2 v3 v4 v5)
        refine (C_pick B _ 5 w7 D7.out.cu (by omega) (by omega) (by omega)).mono ?_; rintro e w8 ⟨x, rfl, ⟨hx0, hx1⟩, hcu8, hg8⟩
        have ix : I64 x := by unfold I64; omega
        have hC8 : Chg B (B + 1) w7 w8 := Chg.of_grown hg8
        (have D8 := Lib.hid (D7.out.step hC8 hcu8); clear hcu8 hg8; (obtain ⟨x0, x1, x2, x3, x4, x5, z0, z1, z2, z5, y0, y1, y2, y3, y4, y5, v0, v1, v2, v3, v4, v5⟩ := RR.out w8 hC8); clear hC8; go_wp2_with fail; (go_light; refine bodyPost_ret (by simp (maxDischargeDepth := 3) [results, Try.results47, go_sem, *]; try rfl) rfl ?_; refine ⟨⟨_, _, _, _, _, _⟩, rfl, ⟨HI.out.1, HI.out.2.1, ix, HI.out.2.2.2⟩, (by (repeat (first | with_reducible refine Cu.setFar ?_ (by first | exact hglB | exact hB0) _ | exact Cu.mono (D8.out).cu (by omega)))), Chg.grown (by (repeat (first | with_reducible exact (D8.out).ch | with_reducible refine Chg.setNew ?_ (by first | exact hglw | exact hg0w) _)))⟩))
      · (go_light; refine bodyPost_ret (by simp (maxDischargeDepth := 3) [results, Try.results47, go_sem, *]; try rfl) rfl ?_; refine ⟨⟨_, _, _, _, _, _⟩, rfl, HI.out, (by (repeat (first | with_reducible refine Cu.setFar ?_ (by first | exact hglB | exact hB0) _ | exact Cu.mono (D7.out).cu (by omega)))), Chg.grown (by (repeat (first | with_reducible exact (D7.out).ch | with_reducible refine Chg.setNew ?_ (by first | exact hglw | exact hg0w) _)))⟩)
end Go.Proofs.Ytpkgfpgccfnkpaa
