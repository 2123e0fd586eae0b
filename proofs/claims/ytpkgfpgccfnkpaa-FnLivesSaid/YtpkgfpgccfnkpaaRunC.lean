/- A list of steps is gone through: the reference. No condition but those stated. -/
import Derived.Test.YtpkgfpgccfnkpaaRunB
import Derived.Deep.RegionHeld3
import Derived.Deep.DrawnRows
namespace Go.Proofs.Ytpkgfpgccfnkpaa
set_option linter.unusedVariables false
set_option linter.unusedSimpArgs false
open Go.RowKit Go.Sort
set_option maxHeartbeats 4000000 in
theorem C_RunLifeS (day state act period closed holds : Int) (v : Value) (n : Nat) (K V : Nat → Int) (w : World) (h : SS w v n K V) (hI : ∀ j, j < n → I64 (V j)) :
    Calls Try.prog 27 #[.agg #[.int .i64 day, .int .i64 state, .int .i64 act, .int .i64 period, .int .i64 closed, .int .i64 holds], v] w fun e w' => e = .returned (.tuple #[.agg #[.int .i64 (runL (⟨day, state, act, period, closed, holds⟩ : Lf) n K V).day, .int .i64 (runL (⟨day, state, act, period, closed, holds⟩ : Lf) n K V).state, .int .i64 (runL (⟨day, state, act, period, closed, holds⟩ : Lf) n K V).act, .int .i64 (runL (⟨day, state, act, period, closed, holds⟩ : Lf) n K V).period, .int .i64 (runL (⟨day, state, act, period, closed, holds⟩ : Lf) n K V).closed, .int .i64 (runL (⟨day, state, act, period, closed, holds⟩ : Lf) n K V).holds], .int .i64 (runN (⟨day, state, act, period, closed, holds⟩ : Lf) n K V), .bool (runOk (⟨day, state, act, period, closed, holds⟩ : Lf) n)]) ∧ Below w.heap.size w w' := by
  obtain ⟨A, cap, rfl, hr, hc, hm⟩ := h
  have HR := Lib.hid hr; clear hr
  have HI := Lib.hid hI; clear hI
  cases hok : runOk (⟨day, state, act, period, closed, holds⟩ : Lf) n
  · have h1 : runL (⟨day, state, act, period, closed, holds⟩ : Lf) n K V = zeroL := by simp [runL, hok]
    have h2 : runN (⟨day, state, act, period, closed, holds⟩ : Lf) n K V = 0 := by simp [runN, hok]
    rw [h1, h2]
    clear h1 h2
    cases hl : (⟨day, state, act, period, closed, holds⟩ : Lf).ok
    · go_enter Try.func27, Try.ntmps27
      go_wp2_with (go_at_call 35; refine (C_l21Good _ _ _ _ _ _ _).mono ?_; rintro e w' ⟨rfl, hb'⟩; obtain ⟨hc', hf'⟩ := bcell hb'; (try simp only [World.size_drew] at hc' hf'); have hz' := bsize hb'; (try simp at hz'); have ht' := (by first | exact lt_le5 hz' | exact lt_le4 hz' | exact lt_le3 hz' | exact lt_le2 hz' | exact lt_le1 hz' | exact lt_le0 hz' : ∀ n, n < _ → n < w'.heap.size); (first | (obtain ⟨hs1, hs2, hs3, hs4, hs5⟩ := sz5 hz') | (obtain ⟨hs1, hs2, hs3, hs4⟩ := sz4 hz') | (obtain ⟨hs1, hs2, hs3⟩ := sz3 hz') | (obtain ⟨hs1, hs2⟩ := sz2 hz') | (have hs1 := sz1 hz') | skip); (try have hq0 : w.heap.size < w'.heap.size := by omega); (try have hq1 : w.heap.size + 1 < w'.heap.size := by omega); (try have hq2 : w.heap.size + 1 + 1 < w'.heap.size := by omega); (try have hq3 : w.heap.size + 1 + 1 + 1 < w'.heap.size := by omega))
      all_goals (go_light; refine bodyPost_ret (by simp (maxDischargeDepth := 3) [results, Try.results27, go_sem, *]; try rfl) rfl ?_)
      all_goals refine ⟨?_, ?_⟩
      all_goals (go_light; first | ((repeat (first | with_reducible exact Below.refl _ _ | with_reducible exact below_regrown _ _ _ | with_reducible refine bel_step0 (by assumption) ?_ | with_reducible refine bel_alloc0 ?_ _ | with_reducible refine bel_regrown0 ?_ _ _ | with_reducible refine bel_regrown ?_ (by first | omega | (simp; done) | (simp; omega)) _ _ | with_reducible refine below_drewN ?_ _ | with_reducible refine Below.drew ?_ | with_reducible refine Below.alloc ?_ (by first | omega | (simp; done) | (simp; omega)) _ | with_reducible refine Below.setCell ?_ (by first | omega | (simp; done) | (simp; omega)) _ | with_reducible refine bel_step (by assumption) (by first | omega | (simp; done) | (simp; omega)) ?_ | with_reducible refine bel_grown (by assumption) (by first | omega | (simp; done) | (simp; omega)) (by first | omega | (simp; done) | (simp; omega)) ?_)); done) | (skip; (try unfold zeroL at *); simp_all; done) | (skip; (try unfold zeroL at *); simp_all; omega) | (skip; (try unfold zeroL at *); simp_all; (repeat' split) <;> first | rfl | omega | (simp_all; done) | (simp_all; omega)))
    · have hn : ¬ (n ≤ 40) := fun h => by simp [runOk, hl, h] at hok
      have hn2 : (40 : Int) < (n : Int) := by omega
      go_enter Try.func27, Try.ntmps27
      go_wp2_with (go_at_call 35; refine (C_l21Good _ _ _ _ _ _ _).mono ?_; rintro e w' ⟨rfl, hb'⟩; obtain ⟨hc', hf'⟩ := bcell hb'; (try simp only [World.size_drew] at hc' hf'); have hz' := bsize hb'; (try simp at hz'); have ht' := (by first | exact lt_le5 hz' | exact lt_le4 hz' | exact lt_le3 hz' | exact lt_le2 hz' | exact lt_le1 hz' | exact lt_le0 hz' : ∀ n, n < _ → n < w'.heap.size); (first | (obtain ⟨hs1, hs2, hs3, hs4, hs5⟩ := sz5 hz') | (obtain ⟨hs1, hs2, hs3, hs4⟩ := sz4 hz') | (obtain ⟨hs1, hs2, hs3⟩ := sz3 hz') | (obtain ⟨hs1, hs2⟩ := sz2 hz') | (have hs1 := sz1 hz') | skip); (try have hq0 : w.heap.size < w'.heap.size := by omega); (try have hq1 : w.heap.size + 1 < w'.heap.size := by omega); (try have hq2 : w.heap.size + 1 + 1 < w'.heap.size := by omega); (try have hq3 : w.heap.size + 1 + 1 + 1 < w'.heap.size := by omega))
      all_goals (go_light; refine bodyPost_ret (by simp (maxDischargeDepth := 3) [results, Try.results27, go_sem, *]; try rfl) rfl ?_)
      all_goals refine ⟨?_, ?_⟩
      all_goals (go_light; first | ((repeat (first | with_reducible exact Below.refl _ _ | with_reducible exact below_regrown _ _ _ | with_reducible refine bel_step0 (by assumption) ?_ | with_reducible refine bel_alloc0 ?_ _ | with_reducible refine bel_regrown0 ?_ _ _ | with_reducible refine bel_regrown ?_ (by first | omega | (simp; done) | (simp; omega)) _ _ | with_reducible refine below_drewN ?_ _ | with_reducible refine Below.drew ?_ | with_reducible refine Below.alloc ?_ (by first | omega | (simp; done) | (simp; omega)) _ | with_reducible refine Below.setCell ?_ (by first | omega | (simp; done) | (simp; omega)) _ | with_reducible refine bel_step (by assumption) (by first | omega | (simp; done) | (simp; omega)) ?_ | with_reducible refine bel_grown (by assumption) (by first | omega | (simp; done) | (simp; omega)) (by first | omega | (simp; done) | (simp; omega)) ?_)); done) | (skip; (try unfold zeroL at *); simp_all; done) | (skip; (try unfold zeroL at *); simp_all; omega) | (skip; (try unfold zeroL at *); simp_all; (repeat' split) <;> first | rfl | omega | (simp_all; done) | (simp_all; omega)))
  · simp only [runOk, Bool.and_eq_true, decide_eq_true_eq] at hok
    obtain ⟨hl, hn⟩ := hok
    have hn2 : ¬ (40 : Int) < (n : Int) := by omega
    have hrl : runL (⟨day, state, act, period, closed, holds⟩ : Lf) n K V = (runTo (⟨day, state, act, period, closed, holds⟩ : Lf) K V n).1 := by simp [runL, runOk, hl, hn]
    have hrn : runN (⟨day, state, act, period, closed, holds⟩ : Lf) n K V = (runTo (⟨day, state, act, period, closed, holds⟩ : Lf) K V n).2 := by simp [runN, runOk, hl, hn]
    rw [hrl, hrn]
    clear hrl hrn
    have HL := Lib.hid hl
    go_enter Try.func27, Try.ntmps27
    go_wp2_with ((go_at_call 35; refine (C_l21Good _ _ _ _ _ _ _).mono ?_; rintro e w' ⟨rfl, hb'⟩; obtain ⟨hc', hf'⟩ := bcell hb'; (try simp only [World.size_drew] at hc' hf'); have hz' := bsize hb'; (try simp at hz'); have ht' := (by first | exact lt_le5 hz' | exact lt_le4 hz' | exact lt_le3 hz' | exact lt_le2 hz' | exact lt_le1 hz' | exact lt_le0 hz' : ∀ n, n < _ → n < w'.heap.size); (first | (obtain ⟨hs1, hs2, hs3, hs4, hs5⟩ := sz5 hz') | (obtain ⟨hs1, hs2, hs3, hs4⟩ := sz4 hz') | (obtain ⟨hs1, hs2, hs3⟩ := sz3 hz') | (obtain ⟨hs1, hs2⟩ := sz2 hz') | (have hs1 := sz1 hz') | skip); (try have hq0 : w.heap.size < w'.heap.size := by omega); (try have hq1 : w.heap.size + 1 < w'.heap.size := by omega); (try have hq2 : w.heap.size + 1 + 1 < w'.heap.size := by omega); (try have hq3 : w.heap.size + 1 + 1 + 1 < w'.heap.size := by omega)); simp only [hl])
    have hbs := hb'.size
    simp only [World.size_alloc] at hbs
    have r4 := (row6_alloc (w.alloc (.cells #[.int .i64 day, .int .i64 state, .int .i64 act, .int .i64 period, .int .i64 closed, .int .i64 holds] 25)) 25 zeroL).of_block (w' := w') (hb'.block _ (by simp [zeroL]))
    rw [World.size_alloc] at r4
    obtain ⟨g, hg⟩ : ∃ g, g = w'.heap.size := ⟨_, rfl⟩
    have HG := Lib.hid (show w.heap.size + 1 < g by omega)
    have HB1 := Lib.hid (show Below w.heap.size w (w'.alloc (.cells #[.int .i64 day, .int .i64 state, .int .i64 act, .int .i64 period, .int .i64 closed, .int .i64 holds] 25)) by (repeat (first | with_reducible exact Below.refl _ _ | with_reducible exact below_regrown _ _ _ | with_reducible refine bel_step0 (by assumption) ?_ | with_reducible refine bel_alloc0 ?_ _ | with_reducible refine bel_regrown0 ?_ _ _ | with_reducible refine bel_regrown ?_ (by first | omega | (simp; done) | (simp; omega)) _ _ | with_reducible refine below_drewN ?_ _ | with_reducible refine Below.drew ?_ | with_reducible refine Below.alloc ?_ (by first | omega | (simp; done) | (simp; omega)) _ | with_reducible refine Below.setCell ?_ (by first | omega | (simp; done) | (simp; omega)) _ | with_reducible refine bel_step (by assumption) (by first | omega | (simp; done) | (simp; omega)) ?_ | with_reducible refine bel_grown (by assumption) (by first | omega | (simp; done) | (simp; omega)) (by first | omega | (simp; done) | (simp; omega)) ?_)))
    have HR2 := Lib.hid (show (w'.alloc (.cells #[.int .i64 day, .int .i64 state, .int .i64 act, .int .i64 period, .int .i64 closed, .int .i64 holds] 25)).rowIs g 25 6 (c6 (⟨day, state, act, period, closed, holds⟩ : Lf)) by rw [hg]; exact row6_alloc w' _ (⟨day, state, act, period, closed, holds⟩ : Lf))
    have HR4 := Lib.hid (r4.of_block (Below.heap_alloc w' (.cells #[.int .i64 day, .int .i64 state, .int .i64 act, .int .i64 period, .int .i64 closed, .int .i64 holds] 25) _ r4.lt))
    obtain ⟨wo, hwo⟩ : ∃ wo, wo = w'.alloc (.cells #[.int .i64 day, .int .i64 state, .int .i64 act, .int .i64 period, .int .i64 closed, .int .i64 holds] 25) := ⟨_, rfl⟩
    rw [← hwo] at HB1 HR2 HR4
    rw [← hwo, ← hg]
    clear r4 hb' hc' hf' hz' ht' hbs hg hwo
    try clear hs1 hs2
    try clear hq0 hq1
    go_loopw [8, 9] (fun q i wr => ∃ k : Nat, k ≤ n ∧ i = .int .i64 k ∧ q = .int .i64 ((runTo (⟨day, state, act, period, closed, holds⟩ : Lf) K V k).2 : Nat) ∧ wr.rowIs g 25 6 (c6 (runTo (⟨day, state, act, period, closed, holds⟩ : Lf) K V k).1) ∧ wr.rowIs (w.heap.size + 1) 25 6 (c6 zeroL) ∧ Below w.heap.size w wr) (fun _ i _ => n - (intOf i).toNat)
    case atStart => exact ⟨0, Nat.zero_le _, rfl, rfl, HR2.out, HR4.out, HB1.out⟩
    case round =>
      obtain ⟨k, hk, rfl, rfl, h2, h4, hB⟩ := hrel
      have hzB := hB.size
      clear HB1 HR2 HR4
      obtain ⟨hxo, hxm⟩ := runTo_ok (K := K) (V := V) HL.out k
      obtain ⟨⟨⟨d, s, a, p, c, h6⟩, m⟩, hrun⟩ : ∃ x, runTo (⟨day, state, act, period, closed, holds⟩ : Lf) K V k = x := ⟨_, rfl⟩
      rw [hrun] at h2 hxo hxm ⊢
      simp only at h2 hxo hxm ⊢
      have HRUN := Lib.hid hrun
      have HR2 := Lib.hid h2
      have HR4 := Lib.hid h4
      have hgl2 := h2.lt
      have hgl4 := h4.lt
      by_cases hlt : k < n
      · obtain ⟨b, off, rfl, hb, hcell⟩ := SS.at_ hB HR.out (by omega)
        obtain ⟨hck0, hck1⟩ := hcell k hlt
        have hkn : (k : Int) < (n : Int) := by omega
        have hk0 : (0 : Int) ≤ (k : Int) := by omega
        have hik := HI.out k hlt
        have KK : ∀ W, Below wr.heap.size wr W → W.rowIs g 25 6 (c6 ⟨d, s, a, p, c, h6⟩) ∧ W.rowIs (w.heap.size + 1) 25 6 (c6 zeroL) ∧ Below w.heap.size w W := fun W hb0 =>
          ⟨HR2.out.of_block (hb0.block _ hgl2), HR4.out.of_block (hb0.block _ hgl4), bel_step0 hb0 hB⟩
        cases hs : stepOkS (K k) (V k)
        · clear hcell h2 h4
          have hcn : canL ⟨d, s, a, p, c, h6⟩ (K k) (V k) = false := by simp [canL, okSI hs]
          go_wp2_with (go_at_call 42; refine (C_l21Step _ _ _).mono ?_; rintro e w' ⟨rfl, hb'⟩; simp only [hs])
          go_roundw
          case rel =>
            obtain ⟨j2, j4, jB⟩ := KK w' hb'
            refine ⟨k + 1, by omega, by go_num, ?_⟩
            rw [runTo_no HRUN.out hcn]
            exact ⟨rfl, j2, j4, jB⟩
          case measure => simp [intOf]; omega
        · clear hcell h2 h4
          have HS := Lib.hid hs
          have G0 : ∀ W, Below wr.heap.size wr W → W.cell? ⟨b, off + k * 2, none⟩ = some (.int .i64 (K k)) ∧ W.cell? ⟨b, off + k * 2 + 1, none⟩ = some (.int .i64 (V k)) := fun W hW => ⟨(hW.cell (p := ⟨b, off + k * 2, none⟩) hb).trans hck0, (hW.cell (p := ⟨b, off + k * 2 + 1, none⟩) hb).trans hck1⟩
          have G0 := Lib.hid G0
          have KK := Lib.hid KK
          go_upto_region 8 with (go_at_call 42; refine (C_l21Step _ _ _).mono ?_; rintro e w' ⟨rfl, hb'⟩; simp only [hs])
          obtain ⟨j2, j4, jB⟩ := KK.out w' hb'
          have hgz := j2.lt
          have hbz := Nat.lt_of_lt_of_le hb hb'.size
          have x0 := (j2).cell (i := 0) (by omega); have x1 := (j2).cell (i := 1) (by omega); have x2 := (j2).cell (i := 2) (by omega); have x3 := (j2).cell (i := 3) (by omega); have x4 := (j2).cell (i := 4) (by omega); have x5 := (j2).cell (i := 5) (by omega); simp only [c6, if_true, if_false, Nat.reduceEqDiff, reduceCtorEq] at x0 x1 x2 x3 x4 x5
          have r0 : ∀ W, Below w'.heap.size w' W → W.cell? ⟨g, 0, none⟩ = some (.int .i64 d) := fun W hW => (hW.cell (p := ⟨g, 0, none⟩) hgz).trans x0
          have r1 : ∀ W, Below w'.heap.size w' W → W.cell? ⟨g, 1, none⟩ = some (.int .i64 s) := fun W hW => (hW.cell (p := ⟨g, 1, none⟩) hgz).trans x1
          have r2 : ∀ W, Below w'.heap.size w' W → W.cell? ⟨g, 2, none⟩ = some (.int .i64 a) := fun W hW => (hW.cell (p := ⟨g, 2, none⟩) hgz).trans x2
          have r3 : ∀ W, Below w'.heap.size w' W → W.cell? ⟨g, 3, none⟩ = some (.int .i64 p) := fun W hW => (hW.cell (p := ⟨g, 3, none⟩) hgz).trans x3
          have r4 : ∀ W, Below w'.heap.size w' W → W.cell? ⟨g, 4, none⟩ = some (.int .i64 c) := fun W hW => (hW.cell (p := ⟨g, 4, none⟩) hgz).trans x4
          have r5 : ∀ W, Below w'.heap.size w' W → W.cell? ⟨g, 5, none⟩ = some (.int .i64 h6) := fun W hW => (hW.cell (p := ⟨g, 5, none⟩) hgz).trans x5
          have r6 : ∀ W, Below w'.heap.size w' W → W.cell? ⟨b, off + k * 2, none⟩ = some (.int .i64 (K k)) := fun W hW => (hW.cell (p := ⟨b, off + k * 2, none⟩) hbz).trans (G0.out _ hb').1
          have r7 : ∀ W, Below w'.heap.size w' W → W.cell? ⟨b, off + k * 2 + 1, none⟩ = some (.int .i64 (V k)) := fun W hW => (hW.cell (p := ⟨b, off + k * 2 + 1, none⟩) hbz).trans (G0.out _ hb').2
          clear x0 x1 x2 x3 x4 x5 hck0 hck1
          have HC := Lib.hid (C_l21Make d s a p c h6 (K k) (V k))
          go_cut [10, 11] (fun s10 s11 wx => ∃ (B : Nat) (y : Lf), s10 = .pointer (some ⟨B, 0, none⟩) ∧ s11 = .bool (canL ⟨d, s, a, p, c, h6⟩ (K k) (V k)) ∧ wx.rowIs B 25 6 (c6 y) ∧ (canL ⟨d, s, a, p, c, h6⟩ (K k) (V k) = true → y = rawL ⟨d, s, a, p, c, h6⟩ (K k) (V k)) ∧ Below w'.heap.size w' wx)
          case first =>
            go_region_held3 (fun W => Below w'.heap.size w' W) (((repeat (first | with_reducible exact Below.refl _ _ | with_reducible exact below_regrown _ _ _ | with_reducible refine bel_step0 (by assumption) ?_ | with_reducible refine bel_alloc0 ?_ _ | with_reducible refine bel_regrown0 ?_ _ _ | with_reducible refine bel_regrown ?_ (by first | omega | (simp; done) | (simp; omega)) _ _ | with_reducible refine below_drewN ?_ _ | with_reducible refine Below.drew ?_ | with_reducible refine Below.alloc ?_ (by first | omega | (simp; done) | (simp; omega)) _ | with_reducible refine Below.setCell ?_ (by first | omega | (simp; done) | (simp; omega)) _ | with_reducible refine bel_step (by assumption) (by first | omega | (simp; done) | (simp; omega)) ?_ | with_reducible refine bel_grown (by assumption) (by first | omega | (simp; done) | (simp; omega)) (by first | omega | (simp; done) | (simp; omega)) ?_)))) (first | (go_at_call 43; refine (HC.out _ hxo HS.out hik).mono ?_; rintro e w2 ⟨⟨d1, s1, a1, p1, c1, h1⟩, rfl, hrw, hb2⟩; (try (have hn6 := (row6_alloc w'.drew 25 zeroL).of_block (hb2.block _ (by simp [zeroL])); rw [World.size_drew] at hn6; have n0 := (hn6).cell (i := 0) (by omega); have n1 := (hn6).cell (i := 1) (by omega); have n2 := (hn6).cell (i := 2) (by omega); have n3 := (hn6).cell (i := 3) (by omega); have n4 := (hn6).cell (i := 4) (by omega); have n5 := (hn6).cell (i := 5) (by omega); simp only [c6, if_true, if_false, Nat.reduceEqDiff, reduceCtorEq] at n0 n1 n2 n3 n4 n5; have m0 := hn6.frozen 0; have m1 := hn6.frozen 1; have m2 := hn6.frozen 2; have m3 := hn6.frozen 3; have m4 := hn6.frozen 4; have m5 := hn6.frozen 5; have HN6 := Lib.hid hn6; clear hn6))))
            · go_wp2_with fail
              go_meet
              exact ⟨_, _, rfl, rfl, row6_alloc w2 _ ⟨d1, s1, a1, p1, c1, h1⟩, hrw, by (repeat (first | with_reducible exact Below.refl _ _ | with_reducible exact below_regrown _ _ _ | with_reducible refine bel_step0 (by assumption) ?_ | with_reducible refine bel_alloc0 ?_ _ | with_reducible refine bel_regrown0 ?_ _ _ | with_reducible refine bel_regrown ?_ (by first | omega | (simp; done) | (simp; omega)) _ _ | with_reducible refine below_drewN ?_ _ | with_reducible refine Below.drew ?_ | with_reducible refine Below.alloc ?_ (by first | omega | (simp; done) | (simp; omega)) _ | with_reducible refine Below.setCell ?_ (by first | omega | (simp; done) | (simp; omega)) _ | with_reducible refine bel_step (by assumption) (by first | omega | (simp; done) | (simp; omega)) ?_ | with_reducible refine bel_grown (by assumption) (by first | omega | (simp; done) | (simp; omega)) (by first | omega | (simp; done) | (simp; omega)) ?_))⟩
            · go_wp2_with fail
              go_meet
              have hbb : Below w'.heap.size w' w2 := by (repeat (first | with_reducible exact Below.refl _ _ | with_reducible exact below_regrown _ _ _ | with_reducible refine bel_step0 (by assumption) ?_ | with_reducible refine bel_alloc0 ?_ _ | with_reducible refine bel_regrown0 ?_ _ _ | with_reducible refine bel_regrown ?_ (by first | omega | (simp; done) | (simp; omega)) _ _ | with_reducible refine below_drewN ?_ _ | with_reducible refine Below.drew ?_ | with_reducible refine Below.alloc ?_ (by first | omega | (simp; done) | (simp; omega)) _ | with_reducible refine Below.setCell ?_ (by first | omega | (simp; done) | (simp; omega)) _ | with_reducible refine bel_step (by assumption) (by first | omega | (simp; done) | (simp; omega)) ?_ | with_reducible refine bel_grown (by assumption) (by first | omega | (simp; done) | (simp; omega)) (by first | omega | (simp; done) | (simp; omega)) ?_))
              exact ⟨_, _, rfl, rfl, row6_set ⟨d1, s1, a1, p1, c1, h1⟩ HN6.out, hrw, (((((hbb.setCell (p := ⟨w'.heap.size, 0, none⟩) (Nat.le_refl _) _).setCell (p := ⟨w'.heap.size, 1, none⟩) (Nat.le_refl _) _).setCell (p := ⟨w'.heap.size, 2, none⟩) (Nat.le_refl _) _).setCell (p := ⟨w'.heap.size, 3, none⟩) (Nat.le_refl _) _).setCell (p := ⟨w'.heap.size, 4, none⟩) (Nat.le_refl _) _).setCell (p := ⟨w'.heap.size, 5, none⟩) (Nat.le_refl _) _⟩
          case rest =>
            rename World => wx
            obtain ⟨B, ⟨d1, s1, a1, p1, c1, h1⟩, rfl, rfl, hy, hrw, hbx⟩ := hcut
            clear r0 r1 r2 r3 r4 r5 r6 r7
            obtain ⟨j2, j4, jB⟩ := KK.out _ (hb'.trans (hbx.mono hb'.size))
            have HJ2 := Lib.hid j2
            have HJ4 := Lib.hid j4
            have hgx := j2.lt
            have z0 := j2.frozen 0
            have z1 := j2.frozen 1
            have z2 := j2.frozen 2
            have z3 := j2.frozen 3
            have z4 := j2.frozen 4
            have z5 := j2.frozen 5
            have x0 := (j2).cell (i := 0) (by omega); have x1 := (j2).cell (i := 1) (by omega); have x2 := (j2).cell (i := 2) (by omega); have x3 := (j2).cell (i := 3) (by omega); have x4 := (j2).cell (i := 4) (by omega); have x5 := (j2).cell (i := 5) (by omega); simp only [c6, if_true, if_false, Nat.reduceEqDiff, reduceCtorEq] at x0 x1 x2 x3 x4 x5
            have y0 := (hy).cell (i := 0) (by omega); have y1 := (hy).cell (i := 1) (by omega); have y2 := (hy).cell (i := 2) (by omega); have y3 := (hy).cell (i := 3) (by omega); have y4 := (hy).cell (i := 4) (by omega); have y5 := (hy).cell (i := 5) (by omega); simp only [c6, if_true, if_false, Nat.reduceEqDiff, reduceCtorEq] at y0 y1 y2 y3 y4 y5
            clear j2 j4 hy
            cases hcn : canL ⟨d, s, a, p, c, h6⟩ (K k) (V k)
            · rw [hcn] at hrw
              go_wp2
              go_roundw
              case rel =>
                refine ⟨k + 1, by omega, by go_num, ?_⟩
                rw [runTo_no HRUN.out hcn]
                exact ⟨rfl, HJ2.out, HJ4.out, jB⟩
              case measure => simp [intOf]; omega
            · have hyy := hrw hcn
              clear hrw
              go_wp2
              go_roundw
              case rel =>
                refine ⟨k + 1, by omega, by go_num, ?_⟩
                rw [runTo_yes HRUN.out hcn, ← hyy]
                have hg := HG.out
                have hg4 : w.heap.size + 1 ≠ g := by omega
                have q4 := (((((HJ4.out.setOther (a := ⟨g, 0, none⟩) hg4 (.int .i64 d1)).setOther (a := ⟨g, 1, none⟩) hg4 (.int .i64 s1)).setOther (a := ⟨g, 2, none⟩) hg4 (.int .i64 a1)).setOther (a := ⟨g, 3, none⟩) hg4 (.int .i64 p1)).setOther (a := ⟨g, 4, none⟩) hg4 (.int .i64 c1)).setOther (a := ⟨g, 5, none⟩) hg4 (.int .i64 h1)
                have hge : w.heap.size ≤ g := by omega
                exact ⟨rfl, row6_set ⟨d1, s1, a1, p1, c1, h1⟩ HJ2.out, q4, (((((jB.setCell (p := ⟨g, 0, none⟩) hge _).setCell (p := ⟨g, 1, none⟩) hge _).setCell (p := ⟨g, 2, none⟩) hge _).setCell (p := ⟨g, 3, none⟩) hge _).setCell (p := ⟨g, 4, none⟩) hge _).setCell (p := ⟨g, 5, none⟩) hge _⟩
              case measure => simp [intOf]; omega
      · obtain rfl : k = n := by omega
        have y0 := (h4).cell (i := 0) (by omega); have y1 := (h4).cell (i := 1) (by omega); have y2 := (h4).cell (i := 2) (by omega); have y3 := (h4).cell (i := 3) (by omega); have y4 := (h4).cell (i := 4) (by omega); have y5 := (h4).cell (i := 5) (by omega); simp only [c6, if_true, if_false, Nat.reduceEqDiff, reduceCtorEq] at y0 y1 y2 y3 y4 y5
        have x0 := (h2).cell (i := 0) (by omega); have x1 := (h2).cell (i := 1) (by omega); have x2 := (h2).cell (i := 2) (by omega); have x3 := (h2).cell (i := 3) (by omega); have x4 := (h2).cell (i := 4) (by omega); have x5 := (h2).cell (i := 5) (by omega); simp only [c6, if_true, if_false, Nat.reduceEqDiff, reduceCtorEq] at x0 x1 x2 x3 x4 x5
        have f0 := h4.frozen 0
        have f1 := h4.frozen 1
        have f2 := h4.frozen 2
        have f3 := h4.frozen 3
        have f4 := h4.frozen 4
        have f5 := h4.frozen 5
        have hrr := HRUN.out
        clear h2 h4
        go_wp2
        rw [hrr]
        all_goals (go_light; refine bodyPost_ret (by simp (maxDischargeDepth := 3) [results, Try.results27, go_sem, *]; try rfl) rfl ?_)
        all_goals refine ⟨?_, ?_⟩
        · rfl
        · exact (((((hB.setCell (p := ⟨w.heap.size + 1, 0, none⟩) (Nat.le_succ _) _).setCell (p := ⟨w.heap.size + 1, 1, none⟩) (Nat.le_succ _) _).setCell (p := ⟨w.heap.size + 1, 2, none⟩) (Nat.le_succ _) _).setCell (p := ⟨w.heap.size + 1, 3, none⟩) (Nat.le_succ _) _).setCell (p := ⟨w.heap.size + 1, 4, none⟩) (Nat.le_succ _) _).setCell (p := ⟨w.heap.size + 1, 5, none⟩) (Nat.le_succ _) _
end Go.Proofs.Ytpkgfpgccfnkpaa
