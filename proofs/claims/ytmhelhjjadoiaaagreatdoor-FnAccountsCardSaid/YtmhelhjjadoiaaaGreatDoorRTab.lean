/- How the laws compare tables. No condition but those stated. -/
import Derived.Test.YtmhelhjjadoiaaaGreatDoorRLaw
import Derived.Test.YtmhelhjjadoiaaaGreatDoorRevQ
namespace Go.Proofs.YtmhelhjjadoiaaaGreatDoor
set_option linter.unusedVariables false
set_option linter.unusedSimpArgs false
open Go.RowKit Go.Sort
theorem C_rTable (v v' : Value) (n : Nat) (L : Nat → List Int) (w : World) (h : SSI w v n L) (h' : SSI w v' n L) :
    Calls Tryz.prog 36 #[v, v'] w fun e w' => e = .returned (.bool true) ∧ Below w.heap.size w w' := by
  obtain ⟨A, cap, rfl, hr, hc, hm⟩ := h
  obtain ⟨A', cap', rfl, hr', hc', hm'⟩ := h'
  have HR := Lib.hid hr; clear hr
  have HR' := Lib.hid hr'; clear hr'
  go_enter Tryz.func36, Tryz.ntmps36
  go_wp2
  go_loopw [5] (fun i wr => ∃ k : Nat, k ≤ n ∧ i = .int .i64 k ∧ Below w.heap.size w wr) (fun i _ => n - (intOf i).toNat)
  case atStart => exact ⟨0, Nat.zero_le _, rfl, Below.refl _ _⟩
  case round =>
    obtain ⟨k, hk, rfl, hB⟩ := hrel; have hzB := hB.size
    by_cases hlt : k < n
    · obtain ⟨b, off, rfl, hb, hcell⟩ := SSI.at_ hB HR.out (by omega)
      obtain ⟨b', off', rfl, hb', hcell'⟩ := SSI.at_ hB HR'.out (by omega)
      obtain ⟨sv, hsv, hck⟩ := hcell k hlt
      obtain ⟨sv', hsv', hck'⟩ := hcell' k hlt
      obtain ⟨L1, hL1⟩ : ∃ m, (L k).length = m := ⟨_, rfl⟩
      rw [hL1] at hsv hsv'
      have hs0 := hsv; have hs0' := hsv'
      obtain ⟨A1, c1, rfl, _, hd1, hd2⟩ := hs0
      obtain ⟨A1', c1', rfl, _, hd1', hd2'⟩ := hs0'
      have hk0 : (0 : Int) ≤ (k : Int) := by omega
      have hk1 : (k : Int) < (n : Int) := by omega
      have hg0 := cell_regrown hck
      have hg0' := cell_regrown hck'
      have HE : ∀ d os, Calls Tryz.prog 11 #[.slice A1 L1 c1, .slice A1' L1 c1'] (grow (redrawn wr d) os) fun e w'' => e = .returned (.bool true) ∧ ∃ p : Regrown, w'' = grow (redrawn wr p.d) p.os :=
        fun d os => Calls.regrown_of (C_rInts _ _ _ _ _ (hsv.below (below_regrown _ _ _)) (hsv'.below (below_regrown _ _ _)))
      clear hcell hcell' hL1
      go_wp2
      (refine wp_region_quiet_below (by kernel_rfl) (by kernel_rfl) ?_; (repeat (go_big_quiet_step (exact HE _ _))); refine wpQuiet_nil ?_; intro _ hw'; obtain ⟨⟨dq, osq⟩, hw''⟩ := hw'; subst hw'')
      go_wp2
      go_roundw
      case rel => exact ⟨k + 1, by omega, by go_num, by (repeat (first | with_reducible exact Below.refl _ _ | with_reducible exact below_regrown _ _ _ | with_reducible refine bel_step0 (by assumption) ?_ | with_reducible refine bel_alloc0 ?_ _ | with_reducible refine bel_regrown0 ?_ _ _ | with_reducible refine bel_regrown ?_ (by first | omega | (simp; done) | (simp; omega)) _ _ | with_reducible refine below_drewN ?_ _ | with_reducible refine Below.drew ?_ | with_reducible refine Below.alloc ?_ (by first | omega | (simp; done) | (simp; omega)) _ | with_reducible refine Below.setCell ?_ (by first | omega | (simp; done) | (simp; omega)) _ | with_reducible refine bel_step (by assumption) (by first | omega | (simp; done) | (simp; omega)) ?_ | with_reducible refine bel_grown (by assumption) (by first | omega | (simp; done) | (simp; omega)) (by first | omega | (simp; done) | (simp; omega)) ?_))⟩
      case measure => simp [intOf]; omega
    · go_wp2
      go_ret
      exact ⟨rfl, hB⟩
end Go.Proofs.YtmhelhjjadoiaaaGreatDoor
