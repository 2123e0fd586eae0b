/- The library's Grow and Concat at looks. No condition but those stated. -/
import Derived.Test.YtmhelhjjadoiaaaDoorMgE
import Derived.Lib.AppendZeros
namespace Go.Proofs.YtmhelhjjadoiaaaDoor
set_option linter.unusedVariables false
set_option linter.unusedSimpArgs false
open Go.RowKit Go.Sort
theorem C_GrowK (base n : Nat) (w : World) (hn : n ≤ 1048576) (hb : base ≤ w.heap.size) :
    Calls Tryd.prog 91 #[.slice none 0 0, .int .i64 n] w fun e w' => ∃ v', e = .returned v' ∧ OL base w' v' [] ∧ Below w.heap.size w w' := by
  have h0 : ¬ (n : Int) < 0 := by omega
  rcases Nat.eq_zero_or_pos n with hz | hz
  · subst hz
    go_enter Tryd.func91, Tryd.ntmps91
    go_wp2
    go_ret
    exact ⟨_, rfl, OL.nil _ _, by (repeat (first | with_reducible exact Below.refl _ _ | with_reducible exact below_regrown _ _ _ | with_reducible refine bel_step0 (by assumption) ?_ | with_reducible refine bel_alloc0 ?_ _ | with_reducible refine bel_regrown0 ?_ _ _ | with_reducible refine bel_regrown ?_ (by first | omega | (simp; done) | (simp; omega)) _ _ | with_reducible refine below_drewN ?_ _ | with_reducible refine Below.drew ?_ | with_reducible refine Below.alloc ?_ (by first | omega | (simp; done) | (simp; omega)) _ | with_reducible refine Below.setCell ?_ (by first | omega | (simp; done) | (simp; omega)) _ | with_reducible refine bel_step (by assumption) (by first | omega | (simp; done) | (simp; omega)) ?_ | with_reducible refine bel_grown (by assumption) (by first | omega | (simp; done) | (simp; omega)) (by first | omega | (simp; done) | (simp; omega)) ?_))⟩
  · obtain ⟨i0, hi, hz0, hz1, hz2⟩ := info_parts info_look
    have hap := fun ty => Lib.run_append_nil_zeros (P := Tryd.prog) w 32 3 ty 26 i0 _ .i64 .i64 Tryd.underlying32 Tryd.underlying3 hi hz0 n hz (by omega) (by omega) (by rw [hz2]; omega)
    have hcm : grownCap w n 0 26 ≤ maxLen := grownCap_le_maxLen w n 0 _ (by unfold maxLen; omega)
    have hcg := grownCap_ge w n 0 26
    obtain ⟨c, hc⟩ : ∃ c, grownCap w n 0 26 = c := ⟨_, rfl⟩
    obtain ⟨cs, hcs⟩ : ∃ cs, Builtin.zeroCells (Value.agg #[.int .i64 0, .int .i64 0, .int .i64 0, .int .i64 0, .string ByteArray.empty]).cells n ++ Builtin.zeroCells (Value.agg #[.int .i64 0, .int .i64 0, .int .i64 0, .int .i64 0, .string ByteArray.empty]).cells (c - n) = cs := ⟨_, rfl⟩
    rw [hc] at hap hcm hcg
    rw [hcs] at hap
    have hsz : cs.size = c * 5 := by
      rw [← hcs]
      simp only [Array.size_append, Builtin.zeroCells, Array.size_map, Array.size_range, Value.cells]
      show n * 5 + (c - n) * 5 = c * 5
      omega
    have hp : (0 : Int) < (n : Int) := by omega
    have hc0 : 0 ≤ c := by omega
    have HA := Lib.hid hap
    have hO : OL base (w.alloc (.cells cs 26)) (.slice (some ⟨w.heap.size, 0, none⟩) 0 c) [] := ⟨rfl, .inr ⟨w.heap.size, c, cs, rfl, hb, heap_alloc_new _ _, Nat.zero_le _, hcm, hsz, rfl⟩⟩
    have HO := Lib.hid (hO.below (Below.refl _ _).drew)
    clear hO hap hcs hi hz0 hz1 hz2 hc
    go_enter Tryd.func91, Tryd.ntmps91
    go_wp2_with (at_builtin; refine Lib.wpList_append_run _ rfl _ _ _ _ rfl _ _ rfl rfl _ _ (HA.out _) ?_)
    go_ret
    exact ⟨_, rfl, HO.out, by (repeat (first | with_reducible exact Below.refl _ _ | with_reducible exact below_regrown _ _ _ | with_reducible refine bel_step0 (by assumption) ?_ | with_reducible refine bel_alloc0 ?_ _ | with_reducible refine bel_regrown0 ?_ _ _ | with_reducible refine bel_regrown ?_ (by first | omega | (simp; done) | (simp; omega)) _ _ | with_reducible refine below_drewN ?_ _ | with_reducible refine Below.drew ?_ | with_reducible refine Below.alloc ?_ (by first | omega | (simp; done) | (simp; omega)) _ | with_reducible refine Below.setCell ?_ (by first | omega | (simp; done) | (simp; omega)) _ | with_reducible refine bel_step (by assumption) (by first | omega | (simp; done) | (simp; omega)) ?_ | with_reducible refine bel_grown (by assumption) (by first | omega | (simp; done) | (simp; omega)) (by first | omega | (simp; done) | (simp; omega)) ?_))⟩
theorem seg_atK' (l : List Lk) : seg (atK l) 0 l.length = l := seg_atK l
set_option maxRecDepth 100000 in
set_option maxHeartbeats 8000000 in
theorem C_ConcatK (base p : Nat) (A B : Option Addr) (ca cb n m : Nat) (a b : List Lk) (w : World) (hb : base ≤ w.heap.size) (hn : a.length = n) (hm : b.length = m) (hn1 : n ≤ 1000) (hm1 : m ≤ 1000)
    (hA : RK w A a.length (atK a)) (hB : RK w B b.length (atK b)) (c0 : w.cell? ⟨p, 0, none⟩ = some (.slice A n ca)) (c1 : w.cell? ⟨p, 1, none⟩ = some (.slice B m cb)) (cc : Nat) :
    Calls Tryd.prog 74 #[.slice (some ⟨p, 0, none⟩) 2 cc] w fun e w' => ∃ v', e = .returned v' ∧ OL base w' v' (a ++ b) ∧ Below w.heap.size w w' := by
  have HA := Lib.hid (And.intro hA hB)
  have h1 : ¬ ((n : Int) < 0) := by omega
  have h2 : ¬ ((n : Int) + (m : Int) < 0) := by omega
  clear hA hB
  go_enter Tryd.func74, Tryd.ntmps74
  go_wp2
  refine wp_loop_rounds 3 ?_
  rw [rounds_succ]
  go_wp2
  rw [rounds_succ]
  go_wp2
  rw [rounds_succ]
  go_wp2_with fail
  have hp : p < w.heap.size := World.block_lt_of_cell? w _ c0
  have hG : ∀ W : World, W = w → Calls Tryd.prog 91 #[.slice none 0 0, .int .i64 ((n : Int) + (m : Int))] W fun e w' => ∃ v', e = .returned v' ∧ OL w.heap.size w' v' [] ∧ Below w.heap.size w w' := fun W hW => by
    subst hW
    have := C_GrowK W.heap.size (n + m) W (by omega) (Nat.le_refl _)
    rw [show ((n + m : Nat) : Int) = (n : Int) + (m : Int) by omega] at this
    exact this
  refine (hG _ rfl).mono ?_; rintro e w1 ⟨v, rfl, ho, B1⟩
  clear hG
  have d0 := (B1.cell (p := ⟨p, 0, none⟩) hp).trans c0
  have d1 := (B1.cell (p := ⟨p, 1, none⟩) hp).trans c1
  have HO := Lib.hid (And.intro ho (And.intro (HA.out.1.below B1) (And.intro (HA.out.2.below B1) B1)))
  clear ho B1 h1 h2
  go_wp2
  refine wp_loop_rounds 3 ?_
  rw [rounds_succ]
  go_wp2_with (at_builtin; refine wp_appL _ rfl _ _ rfl w.heap.size _ _ rfl HO.out.1 A n ca a hn rfl HO.out.2.1 (by simp; omega) HO.out.2.2.2.size ?_; intro v1 w2 ho1 hg1 hx1)
  have B2 := HO.out.2.2.2.trans ((Below.refl _ w1).grown hg1 HO.out.2.2.2.size (fun k hk => (OL.lt HO.out.1 k hk).1))
  have f0 := (B2.cell (p := ⟨p, 0, none⟩) hp).trans c0
  have f1 := (B2.cell (p := ⟨p, 1, none⟩) hp).trans c1
  have HO2 := Lib.hid (And.intro ho1 (And.intro (HA.out.2.below B2) B2))
  clear ho1 hg1 hx1 B2 d0 d1 HO
  go_wp2
  rw [rounds_succ]
  go_wp2_with (at_builtin; refine wp_appL _ rfl _ _ rfl w.heap.size _ _ rfl HO2.out.1 B m cb b hm rfl HO2.out.2.1 (by simp; omega) HO2.out.2.2.size ?_; intro v2 w3 ho2 hg2 hx2)
  have B3 := HO2.out.2.2.trans ((Below.refl _ w2).grown hg2 HO2.out.2.2.size (fun k hk => (OL.lt HO2.out.1 k hk).1))
  have HO3 := Lib.hid (And.intro ho2 B3)
  clear ho2 hg2 hx2 B3 HO2 f0 f1
  go_wp2
  rw [rounds_succ]
  go_wp2
  go_ret
  exact ⟨_, rfl, OL.mono hb HO3.out.1, HO3.out.2⟩
end Go.Proofs.YtmhelhjjadoiaaaDoor
