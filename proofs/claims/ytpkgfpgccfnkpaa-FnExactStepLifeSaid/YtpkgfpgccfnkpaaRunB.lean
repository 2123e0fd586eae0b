/- A list of steps is gone through: the program. No condition but those stated. -/
import Derived.Test.YtpkgfpgccfnkpaaRunA
namespace Go.Proofs.Ytpkgfpgccfnkpaa
set_option linter.unusedVariables false
set_option linter.unusedSimpArgs false
open Go.RowKit Go.Sort
/-- The life behind the first k steps, and how many of them were taken. -/
def runTo (l : Lf) (K V : Nat → Int) : Nat → Lf × Nat
  | 0 => (l, 0)
  | k + 1 => if canL (runTo l K V k).1 (K k) (V k) then (rawL (runTo l K V k).1 (K k) (V k), (runTo l K V k).2 + 1) else runTo l K V k
def runOk (l : Lf) (n : Nat) : Bool := l.ok && decide (n ≤ 40)
def runL (l : Lf) (n : Nat) (K V : Nat → Int) : Lf := if runOk l n then (runTo l K V n).1 else zeroL
def runN (l : Lf) (n : Nat) (K V : Nat → Int) : Nat := if runOk l n then (runTo l K V n).2 else 0
theorem runTo_ok {l : Lf} {K V : Nat → Int} (h : l.ok = true) : ∀ k, (runTo l K V k).1.ok = true ∧ (runTo l K V k).2 ≤ k := by
  intro k
  induction k with
  | zero => exact ⟨h, Nat.le_refl _⟩
  | succ k ih =>
    simp only [runTo]
    split
    · rename_i hc
      refine ⟨?_, by have := ih.2; simp; omega⟩
      simp only [canL, Bool.and_eq_true] at hc
      exact hc.2
    · exact ⟨ih.1, by omega⟩
theorem runTo_yes {l : Lf} {K V : Nat → Int} {k : Nat} {x : Lf} {m : Nat} (h : runTo l K V k = (x, m)) (hc : canL x (K k) (V k) = true) : runTo l K V (k + 1) = (rawL x (K k) (V k), m + 1) := by
  simp only [runTo, h, hc, if_true]
theorem runTo_no {l : Lf} {K V : Nat → Int} {k : Nat} {x : Lf} {m : Nat} (h : runTo l K V k = (x, m)) (hc : canL x (K k) (V k) = false) : runTo l K V (k + 1) = (x, m) := by
  simp only [runTo, h, hc]; rfl
def c6 (l : Lf) (i : Nat) : Value := if i = 0 then .int .i64 l.day else if i = 1 then .int .i64 l.state else if i = 2 then .int .i64 l.act else if i = 3 then .int .i64 l.period else if i = 4 then .int .i64 l.closed else .int .i64 l.holds
theorem row6_alloc (w : World) (t : TypeId) (l : Lf) : (w.alloc (.cells #[.int .i64 l.day, .int .i64 l.state, .int .i64 l.act, .int .i64 l.period, .int .i64 l.closed, .int .i64 l.holds] t)).rowIs w.heap.size t 6 (c6 l) :=
  World.rowIs_alloc w #[.int .i64 l.day, .int .i64 l.state, .int .i64 l.act, .int .i64 l.period, .int .i64 l.closed, .int .i64 l.holds] t (c6 l) (fun i hi => by
    match i, hi with
    | 0, _ => rfl
    | 1, _ => rfl
    | 2, _ => rfl
    | 3, _ => rfl
    | 4, _ => rfl
    | 5, _ => rfl
    | n + 6, h => exact absurd h (by simp))
theorem row6_set {w : World} {g : Nat} {t : TypeId} {f : Nat → Value} (l : Lf) (h : w.rowIs g t 6 f) :
    ((((((w.setCell ⟨g, 0, none⟩ (.int .i64 l.day)).setCell ⟨g, 1, none⟩ (.int .i64 l.state)).setCell ⟨g, 2, none⟩ (.int .i64 l.act)).setCell ⟨g, 3, none⟩ (.int .i64 l.period)).setCell ⟨g, 4, none⟩ (.int .i64 l.closed)).setCell ⟨g, 5, none⟩ (.int .i64 l.holds)).rowIs g t 6 (c6 l) := by
  refine ((((((h.set 0 _).set 1 _).set 2 _).set 3 _).set 4 _).set 5 _).congr fun i hi => ?_
  match i, hi with
  | 0, _ => rfl
  | 1, _ => rfl
  | 2, _ => rfl
  | 3, _ => rfl
  | 4, _ => rfl
  | 5, _ => rfl
set_option maxHeartbeats 2000000 in
theorem C_RunLifeI (day state act period closed holds : Int) (v : Value) (n : Nat) (K V : Nat → Int) (w : World) (h : SS w v n K V) :
    Calls Try.prog 29 #[.agg #[.int .i64 day, .int .i64 state, .int .i64 act, .int .i64 period, .int .i64 closed, .int .i64 holds], v] w fun e w' => e = .returned (.tuple #[.agg #[.int .i64 (runL (⟨day, state, act, period, closed, holds⟩ : Lf) n K V).day, .int .i64 (runL (⟨day, state, act, period, closed, holds⟩ : Lf) n K V).state, .int .i64 (runL (⟨day, state, act, period, closed, holds⟩ : Lf) n K V).act, .int .i64 (runL (⟨day, state, act, period, closed, holds⟩ : Lf) n K V).period, .int .i64 (runL (⟨day, state, act, period, closed, holds⟩ : Lf) n K V).closed, .int .i64 (runL (⟨day, state, act, period, closed, holds⟩ : Lf) n K V).holds], .int .i64 (runN (⟨day, state, act, period, closed, holds⟩ : Lf) n K V), .bool (runOk (⟨day, state, act, period, closed, holds⟩ : Lf) n)]) ∧ Below w.heap.size w w' := by
  obtain ⟨A, cap, rfl, hr, hc, hm⟩ := h
  have HR := Lib.hid hr; clear hr
  cases hok : runOk (⟨day, state, act, period, closed, holds⟩ : Lf) n
  · have h1 : runL (⟨day, state, act, period, closed, holds⟩ : Lf) n K V = zeroL := by simp [runL, hok]
    have h2 : runN (⟨day, state, act, period, closed, holds⟩ : Lf) n K V = 0 := by simp [runN, hok]
    rw [h1, h2]
    clear h1 h2
    cases hl : (⟨day, state, act, period, closed, holds⟩ : Lf).ok
    · go_enter Try.func29, Try.ntmps29
      go_wp2_with (go_at_call 13; refine (C_IsLife _ _ _ _ _ _ _).mono ?_; rintro e w' ⟨rfl, hb'⟩; obtain ⟨hc', hf'⟩ := bcell hb'; (try simp only [World.size_drew] at hc' hf'); have hz' := bsize hb'; (try simp at hz'); have ht' := (by first | exact lt_le5 hz' | exact lt_le4 hz' | exact lt_le3 hz' | exact lt_le2 hz' | exact lt_le1 hz' | exact lt_le0 hz' : ∀ n, n < _ → n < w'.heap.size); (first | (obtain ⟨hs1, hs2, hs3, hs4, hs5⟩ := sz5 hz') | (obtain ⟨hs1, hs2, hs3, hs4⟩ := sz4 hz') | (obtain ⟨hs1, hs2, hs3⟩ := sz3 hz') | (obtain ⟨hs1, hs2⟩ := sz2 hz') | (have hs1 := sz1 hz') | skip); (try have hq0 : w.heap.size < w'.heap.size := by omega); (try have hq1 : w.heap.size + 1 < w'.heap.size := by omega); (try have hq2 : w.heap.size + 1 + 1 < w'.heap.size := by omega); (try have hq3 : w.heap.size + 1 + 1 + 1 < w'.heap.size := by omega))
      all_goals (go_light; refine bodyPost_ret (by simp (maxDischargeDepth := 3) [results, Try.results29, go_sem, *]; try rfl) rfl ?_)
      all_goals refine ⟨?_, ?_⟩
      all_goals (go_light; first | ((repeat (first | with_reducible exact Below.refl _ _ | with_reducible exact below_regrown _ _ _ | with_reducible refine bel_step0 (by assumption) ?_ | with_reducible refine bel_alloc0 ?_ _ | with_reducible refine bel_regrown0 ?_ _ _ | with_reducible refine bel_regrown ?_ (by first | omega | (simp; done) | (simp; omega)) _ _ | with_reducible refine below_drewN ?_ _ | with_reducible refine Below.drew ?_ | with_reducible refine Below.alloc ?_ (by first | omega | (simp; done) | (simp; omega)) _ | with_reducible refine Below.setCell ?_ (by first | omega | (simp; done) | (simp; omega)) _ | with_reducible refine bel_step (by assumption) (by first | omega | (simp; done) | (simp; omega)) ?_ | with_reducible refine bel_grown (by assumption) (by first | omega | (simp; done) | (simp; omega)) (by first | omega | (simp; done) | (simp; omega)) ?_)); done) | (skip; (try unfold zeroL at *); simp_all; done) | (skip; (try unfold zeroL at *); simp_all; omega) | (skip; (try unfold zeroL at *); simp_all; (repeat' split) <;> first | rfl | omega | (simp_all; done) | (simp_all; omega)))
    · have hn : ¬ (n ≤ 40) := fun h => by simp [runOk, hl, h] at hok
      have hn2 : (40 : Int) < (n : Int) := by omega
      go_enter Try.func29, Try.ntmps29
      go_wp2_with (go_at_call 13; refine (C_IsLife _ _ _ _ _ _ _).mono ?_; rintro e w' ⟨rfl, hb'⟩; obtain ⟨hc', hf'⟩ := bcell hb'; (try simp only [World.size_drew] at hc' hf'); have hz' := bsize hb'; (try simp at hz'); have ht' := (by first | exact lt_le5 hz' | exact lt_le4 hz' | exact lt_le3 hz' | exact lt_le2 hz' | exact lt_le1 hz' | exact lt_le0 hz' : ∀ n, n < _ → n < w'.heap.size); (first | (obtain ⟨hs1, hs2, hs3, hs4, hs5⟩ := sz5 hz') | (obtain ⟨hs1, hs2, hs3, hs4⟩ := sz4 hz') | (obtain ⟨hs1, hs2, hs3⟩ := sz3 hz') | (obtain ⟨hs1, hs2⟩ := sz2 hz') | (have hs1 := sz1 hz') | skip); (try have hq0 : w.heap.size < w'.heap.size := by omega); (try have hq1 : w.heap.size + 1 < w'.heap.size := by omega); (try have hq2 : w.heap.size + 1 + 1 < w'.heap.size := by omega); (try have hq3 : w.heap.size + 1 + 1 + 1 < w'.heap.size := by omega))
      all_goals (go_light; refine bodyPost_ret (by simp (maxDischargeDepth := 3) [results, Try.results29, go_sem, *]; try rfl) rfl ?_)
      all_goals refine ⟨?_, ?_⟩
      all_goals (go_light; first | ((repeat (first | with_reducible exact Below.refl _ _ | with_reducible exact below_regrown _ _ _ | with_reducible refine bel_step0 (by assumption) ?_ | with_reducible refine bel_alloc0 ?_ _ | with_reducible refine bel_regrown0 ?_ _ _ | with_reducible refine bel_regrown ?_ (by first | omega | (simp; done) | (simp; omega)) _ _ | with_reducible refine below_drewN ?_ _ | with_reducible refine Below.drew ?_ | with_reducible refine Below.alloc ?_ (by first | omega | (simp; done) | (simp; omega)) _ | with_reducible refine Below.setCell ?_ (by first | omega | (simp; done) | (simp; omega)) _ | with_reducible refine bel_step (by assumption) (by first | omega | (simp; done) | (simp; omega)) ?_ | with_reducible refine bel_grown (by assumption) (by first | omega | (simp; done) | (simp; omega)) (by first | omega | (simp; done) | (simp; omega)) ?_)); done) | (skip; (try unfold zeroL at *); simp_all; done) | (skip; (try unfold zeroL at *); simp_all; omega) | (skip; (try unfold zeroL at *); simp_all; (repeat' split) <;> first | rfl | omega | (simp_all; done) | (simp_all; omega)))
  · simp only [runOk, Bool.and_eq_true, decide_eq_true_eq] at hok
    obtain ⟨hl, hn⟩ := hok
    have hn2 : ¬ (40 : Int) < (n : Int) := by omega
    have hrl : runL (⟨day, state, act, period, closed, holds⟩ : Lf) n K V = (runTo (⟨day, state, act, period, closed, holds⟩ : Lf) K V n).1 := by simp [runL, runOk, hl, hn]
    have hrn : runN (⟨day, state, act, period, closed, holds⟩ : Lf) n K V = (runTo (⟨day, state, act, period, closed, holds⟩ : Lf) K V n).2 := by simp [runN, runOk, hl, hn]
    rw [hrl, hrn]
    clear hrl hrn
    have HL := Lib.hid hl
    go_enter Try.func29, Try.ntmps29
    go_wp2_with ((go_at_call 13; refine (C_IsLife _ _ _ _ _ _ _).mono ?_; rintro e w' ⟨rfl, hb'⟩; obtain ⟨hc', hf'⟩ := bcell hb'; (try simp only [World.size_drew] at hc' hf'); have hz' := bsize hb'; (try simp at hz'); have ht' := (by first | exact lt_le5 hz' | exact lt_le4 hz' | exact lt_le3 hz' | exact lt_le2 hz' | exact lt_le1 hz' | exact lt_le0 hz' : ∀ n, n < _ → n < w'.heap.size); (first | (obtain ⟨hs1, hs2, hs3, hs4, hs5⟩ := sz5 hz') | (obtain ⟨hs1, hs2, hs3, hs4⟩ := sz4 hz') | (obtain ⟨hs1, hs2, hs3⟩ := sz3 hz') | (obtain ⟨hs1, hs2⟩ := sz2 hz') | (have hs1 := sz1 hz') | skip); (try have hq0 : w.heap.size < w'.heap.size := by omega); (try have hq1 : w.heap.size + 1 < w'.heap.size := by omega); (try have hq2 : w.heap.size + 1 + 1 < w'.heap.size := by omega); (try have hq3 : w.heap.size + 1 + 1 + 1 < w'.heap.size := by omega)); simp only [hl])
    have hbs := hb'.size
    simp only [World.size_alloc] at hbs
    have r2 := (((row6_alloc w 25 (⟨day, state, act, period, closed, holds⟩ : Lf)).of_block (w' := w') (((Below.refl _ _).alloc (Nat.le_refl _) (.cells #[.int .i64 zeroL.day, .int .i64 zeroL.state, .int .i64 zeroL.act, .int .i64 zeroL.period, .int .i64 zeroL.closed, .int .i64 zeroL.holds] 25)).trans (hb'.mono (by simp)) |>.block _ (by simp))))
    have r4 := (row6_alloc (w.alloc (.cells #[.int .i64 day, .int .i64 state, .int .i64 act, .int .i64 period, .int .i64 closed, .int .i64 holds] 25)) 25 zeroL).of_block (w' := w') (hb'.block _ (by simp [zeroL]))
    rw [World.size_alloc] at r4
    have HB1 := Lib.hid (show Below w.heap.size w w' by (repeat (first | with_reducible exact Below.refl _ _ | with_reducible exact below_regrown _ _ _ | with_reducible refine bel_step0 (by assumption) ?_ | with_reducible refine bel_alloc0 ?_ _ | with_reducible refine bel_regrown0 ?_ _ _ | with_reducible refine bel_regrown ?_ (by first | omega | (simp; done) | (simp; omega)) _ _ | with_reducible refine below_drewN ?_ _ | with_reducible refine Below.drew ?_ | with_reducible refine Below.alloc ?_ (by first | omega | (simp; done) | (simp; omega)) _ | with_reducible refine Below.setCell ?_ (by first | omega | (simp; done) | (simp; omega)) _ | with_reducible refine bel_step (by assumption) (by first | omega | (simp; done) | (simp; omega)) ?_ | with_reducible refine bel_grown (by assumption) (by first | omega | (simp; done) | (simp; omega)) (by first | omega | (simp; done) | (simp; omega)) ?_)))
    have HR2 := Lib.hid r2
    have HR4 := Lib.hid r4
    clear r2 r4 hb' hc' hf' hz' ht' hbs
    try clear hs1 hs2
    try clear hq0 hq1
    go_loopw [7, 23] (fun q i wr => ∃ k : Nat, k ≤ n ∧ i = .int .i64 k ∧ q = .int .i64 ((runTo (⟨day, state, act, period, closed, holds⟩ : Lf) K V k).2 : Nat) ∧ wr.rowIs w.heap.size 25 6 (c6 (runTo (⟨day, state, act, period, closed, holds⟩ : Lf) K V k).1) ∧ wr.rowIs (w.heap.size + 1) 25 6 (c6 zeroL) ∧ Below w.heap.size w wr) (fun _ i _ => n - (intOf i).toNat)
    case atStart => exact ⟨0, Nat.zero_le _, rfl, rfl, HR2.out, HR4.out, HB1.out⟩
    case round =>
      obtain ⟨k, hk, rfl, rfl, h2, h4, hB⟩ := hrel
      have hzB := hB.size
      clear HB1 HR2 HR4
      obtain ⟨hxo, hxm⟩ := runTo_ok (K := K) (V := V) HL.out k
      obtain ⟨⟨⟨d, s, a, p, c, h6⟩, m⟩, hrun⟩ : ∃ x, runTo (⟨day, state, act, period, closed, holds⟩ : Lf) K V k = x := ⟨_, rfl⟩
      rw [hrun] at h2 hxo hxm ⊢
      simp only at h2 hxo hxm ⊢
      have HRUN := Lib.hid hrun
      have HR2 := Lib.hid h2
      have HR4 := Lib.hid h4
      have hgl2 := h2.lt
      have hgl4 := h4.lt
      have z0 := h2.frozen 0
      have z1 := h2.frozen 1
      have z2 := h2.frozen 2
      have z3 := h2.frozen 3
      have z4 := h2.frozen 4
      have z5 := h2.frozen 5
      have x0 := (h2).cell (i := 0) (by omega); have x1 := (h2).cell (i := 1) (by omega); have x2 := (h2).cell (i := 2) (by omega); have x3 := (h2).cell (i := 3) (by omega); have x4 := (h2).cell (i := 4) (by omega); have x5 := (h2).cell (i := 5) (by omega); simp only [c6, if_true, if_false, Nat.reduceEqDiff, reduceCtorEq] at x0 x1 x2 x3 x4 x5
      by_cases hlt : k < n
      · obtain ⟨b, off, rfl, hb, hcell⟩ := SS.at_ hB HR.out (by omega)
        obtain ⟨hck0, hck1⟩ := hcell k hlt
        have CI := fun W => C_StepLifeI d s a p c h6 (K k) (V k) W
        obtain ⟨⟨d1, s1, a1, p1, c1, h1⟩, hy⟩ : ∃ y, stepL ⟨d, s, a, p, c, h6⟩ (K k) (V k) = y := ⟨_, rfl⟩
        obtain ⟨ok1, hok1⟩ : ∃ y, canL ⟨d, s, a, p, c, h6⟩ (K k) (V k) = y := ⟨_, rfl⟩
        rw [hy, hok1] at CI
        simp only at CI
        have HY := Lib.hid hy
        have HOK1 := Lib.hid hok1
        clear hcell h2 h4 hy hok1
        have K2 : ∀ o w', Below (wr.alloc o).heap.size (wr.alloc o) w' → w'.rowIs w.heap.size 25 6 (c6 ⟨d, s, a, p, c, h6⟩) ∧ w'.rowIs (w.heap.size + 1) 25 6 (c6 zeroL) ∧ Below w.heap.size w w' := fun o w' hb =>
          have hb0 : Below wr.heap.size wr w' := ((Below.refl _ _).alloc (Nat.le_refl _) o).trans (hb.mono (by simp))
          ⟨HR2.out.of_block (hb0.block _ hgl2), HR4.out.of_block (hb0.block _ hgl4), bel_step0 hb0 hB⟩
        cases ok1
        · go_wp2_with (go_at_call 25; refine (CI _).mono ?_; rintro e w' ⟨rfl, hb'⟩; obtain ⟨hc', hf'⟩ := bcell hb'; (try simp only [World.size_drew] at hc' hf'); have hz' := bsize hb'; (try simp at hz'); have ht' := (by first | exact lt_le5 hz' | exact lt_le4 hz' | exact lt_le3 hz' | exact lt_le2 hz' | exact lt_le1 hz' | exact lt_le0 hz' : ∀ n, n < _ → n < w'.heap.size); (first | (obtain ⟨hs1, hs2, hs3, hs4, hs5⟩ := sz5 hz') | (obtain ⟨hs1, hs2, hs3, hs4⟩ := sz4 hz') | (obtain ⟨hs1, hs2, hs3⟩ := sz3 hz') | (obtain ⟨hs1, hs2⟩ := sz2 hz') | (have hs1 := sz1 hz') | skip); (try have hq0 : w.heap.size < w'.heap.size := by omega); (try have hq1 : w.heap.size + 1 < w'.heap.size := by omega); (try have hq2 : w.heap.size + 1 + 1 < w'.heap.size := by omega); (try have hq3 : w.heap.size + 1 + 1 + 1 < w'.heap.size := by omega))
          go_roundw
          case rel =>
            obtain ⟨j2, j4, jB⟩ := K2 _ _ hb'
            refine ⟨k + 1, by omega, by go_num, ?_⟩
            rw [runTo_no HRUN.out HOK1.out]
            exact ⟨rfl, j2.of_block (Below.heap_alloc _ _ _ j2.lt), j4.of_block (Below.heap_alloc _ _ _ j4.lt), jB.alloc jB.size _⟩
          case measure => simp [intOf]; omega
        · go_wp2_with (go_at_call 25; refine (CI _).mono ?_; rintro e w' ⟨rfl, hb'⟩; obtain ⟨hc', hf'⟩ := bcell hb'; (try simp only [World.size_drew] at hc' hf'); have hz' := bsize hb'; (try simp at hz'); have ht' := (by first | exact lt_le5 hz' | exact lt_le4 hz' | exact lt_le3 hz' | exact lt_le2 hz' | exact lt_le1 hz' | exact lt_le0 hz' : ∀ n, n < _ → n < w'.heap.size); (first | (obtain ⟨hs1, hs2, hs3, hs4, hs5⟩ := sz5 hz') | (obtain ⟨hs1, hs2, hs3, hs4⟩ := sz4 hz') | (obtain ⟨hs1, hs2, hs3⟩ := sz3 hz') | (obtain ⟨hs1, hs2⟩ := sz2 hz') | (have hs1 := sz1 hz') | skip); (try have hq0 : w.heap.size < w'.heap.size := by omega); (try have hq1 : w.heap.size + 1 < w'.heap.size := by omega); (try have hq2 : w.heap.size + 1 + 1 < w'.heap.size := by omega); (try have hq3 : w.heap.size + 1 + 1 + 1 < w'.heap.size := by omega))
          go_roundw
          case rel =>
            obtain ⟨j2, j4, jB⟩ := K2 _ _ hb'
            have hyy : (⟨d1, s1, a1, p1, c1, h1⟩ : Lf) = rawL ⟨d, s, a, p, c, h6⟩ (K k) (V k) := by rw [← HY.out]; unfold stepL; rw [if_pos HOK1.out]
            refine ⟨k + 1, by omega, by go_num, ?_⟩
            rw [runTo_yes HRUN.out HOK1.out, ← hyy]
            have q2 := row6_set (⟨d1, s1, a1, p1, c1, h1⟩ : Lf) j2
            have q4 := (((((j4.setOther (a := ⟨w.heap.size, 0, none⟩) (by simp) (.int .i64 d1)).setOther (a := ⟨w.heap.size, 1, none⟩) (by simp) (.int .i64 s1)).setOther (a := ⟨w.heap.size, 2, none⟩) (by simp) (.int .i64 a1)).setOther (a := ⟨w.heap.size, 3, none⟩) (by simp) (.int .i64 p1)).setOther (a := ⟨w.heap.size, 4, none⟩) (by simp) (.int .i64 c1)).setOther (a := ⟨w.heap.size, 5, none⟩) (by simp) (.int .i64 h1)
            have qB := ((((((jB.setCell (p := ⟨w.heap.size, 0, none⟩) (Nat.le_refl _) (.int .i64 d1)).setCell (p := ⟨w.heap.size, 1, none⟩) (Nat.le_refl _) (.int .i64 s1)).setCell (p := ⟨w.heap.size, 2, none⟩) (Nat.le_refl _) (.int .i64 a1)).setCell (p := ⟨w.heap.size, 3, none⟩) (Nat.le_refl _) (.int .i64 p1)).setCell (p := ⟨w.heap.size, 4, none⟩) (Nat.le_refl _) (.int .i64 c1)).setCell (p := ⟨w.heap.size, 5, none⟩) (Nat.le_refl _) (.int .i64 h1))
            exact ⟨rfl, q2.of_block (Below.heap_alloc _ _ _ q2.lt), q4.of_block (Below.heap_alloc _ _ _ q4.lt), qB.alloc qB.size _⟩
          case measure => simp [intOf]; omega
      · obtain rfl : k = n := by omega
        have y0 := (h4).cell (i := 0) (by omega); have y1 := (h4).cell (i := 1) (by omega); have y2 := (h4).cell (i := 2) (by omega); have y3 := (h4).cell (i := 3) (by omega); have y4 := (h4).cell (i := 4) (by omega); have y5 := (h4).cell (i := 5) (by omega); simp only [c6, if_true, if_false, Nat.reduceEqDiff, reduceCtorEq] at y0 y1 y2 y3 y4 y5
        have f0 := h4.frozen 0
        have f1 := h4.frozen 1
        have f2 := h4.frozen 2
        have f3 := h4.frozen 3
        have f4 := h4.frozen 4
        have f5 := h4.frozen 5
        have hrr := HRUN.out
        clear h2 h4
        go_wp2
        rw [hrr]
        all_goals (go_light; refine bodyPost_ret (by simp (maxDischargeDepth := 3) [results, Try.results29, go_sem, *]; try rfl) rfl ?_)
        all_goals refine ⟨?_, ?_⟩
        · rfl
        · exact (((((hB.setCell (p := ⟨w.heap.size + 1, 0, none⟩) (Nat.le_succ _) _).setCell (p := ⟨w.heap.size + 1, 1, none⟩) (Nat.le_succ _) _).setCell (p := ⟨w.heap.size + 1, 2, none⟩) (Nat.le_succ _) _).setCell (p := ⟨w.heap.size + 1, 3, none⟩) (Nat.le_succ _) _).setCell (p := ⟨w.heap.size + 1, 4, none⟩) (Nat.le_succ _) _).setCell (p := ⟨w.heap.size + 1, 5, none⟩) (Nat.le_succ _) _
end Go.Proofs.Ytpkgfpgccfnkpaa
