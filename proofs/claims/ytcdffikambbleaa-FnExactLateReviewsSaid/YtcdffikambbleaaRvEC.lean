/- LateReviews: the program. No condition but those stated. -/
import Derived.Test.YtcdffikambbleaaRvEB
namespace Go.Proofs.Ytcdffikambbleaa
set_option linter.unusedVariables false
set_option linter.unusedSimpArgs false
open Go.RowKit Go.Sort
theorem grown_some {w w' : World} (h : w = w') (row : Option Nat) : w.grownBy w' row := by subst h; exact World.grownBy.refl _ _
theorem C_insSort0 (A : Option Addr) (cap : Nat) (w : World) :
    Calls Try.prog 119 #[.slice A 0 cap, .int .i64 0, .int .i64 0, .func (.func 102) #[] #[]] w fun e w' => e = .returned (.tuple #[]) ∧ w = w' := by
  go_enter Try.func119, Try.ntmps119
  go_wp2
  refine wp_loop_rounds 1 ?_
  rw [rounds_succ]
  go_wp2
  go_end0
  exact ⟨rfl, rfl⟩
theorem C_stable (base : Nat) (v : Value) (l : List El) (w : World) (h : OE base w v l) (hn : l.length ≤ 19) :
    Calls Try.prog 115 #[v, .int .i64 l.length, .func (.func 102) #[] #[]] w fun e w' => e = .returned (.tuple #[]) ∧ OE base w' v (srtE ltE l) ∧ w.grownBy w' v.ownBlock := by
  have key : Calls Try.prog 119 #[v, .int .i64 0, .int .i64 l.length, .func (.func 102) #[] #[]] w fun e w' => e = .returned (.tuple #[]) ∧ OE base w' v (srtE ltE l) ∧ w.grownBy w' v.ownBlock := by
    obtain ⟨A, cap, rfl, hc, hm, hA⟩ := own3.form h
    rcases Nat.eq_zero_or_pos l.length with h0 | h0
    · obtain rfl : l = [] := List.eq_nil_of_length_eq_zero h0
      refine (C_insSort0 A cap w).mono ?_
      rintro e w' ⟨rfl, rfl⟩
      exact ⟨rfl, h, World.grownBy.refl _ _⟩
    · obtain ⟨g, rfl, _, _⟩ := hA h0
      exact C_insSort base g cap l w h (by omega)
  obtain ⟨n, hln⟩ : ∃ n, l.length = n := ⟨_, rfl⟩
  obtain ⟨A, cap, rfl, hc, hm, hA⟩ := own3.form h
  obtain ⟨s, hs⟩ : ∃ s, srtE ltE l = s := ⟨_, rfl⟩
  rw [hs] at key ⊢
  rw [hln] at key hn ⊢
  have K := Lib.hid key
  clear key h hA hln hs
  have h1 : ¬ (20 : Int) ≤ (n : Int) := by omega
  have h2 : ¬ (20 : Int) < (n : Int) := by omega
  go_enter Try.func115, Try.ntmps115
  go_wp2
  refine wp_loop_rounds 1 ?_
  rw [rounds_succ]
  go_wp2_with fail
  refine K.out.mono ?_; rintro e w1 ⟨rfl, ho, hg⟩
  have HO := Lib.hid (And.intro ho hg)
  clear ho hg
  go_wp2
  refine wp_loop_rounds 1 ?_
  rw [rounds_succ]
  go_wp2
  go_end0
  exact ⟨rfl, HO.out⟩
theorem C_SortStable (base : Nat) (v : Value) (l : List El) (w : World) (h : OE base w v l) (hn : l.length ≤ 19) :
    Calls Try.prog 101 #[v, .func (.func 102) #[] #[]] w fun e w' => e = .returned (.tuple #[]) ∧ OE base w' v (srtE ltE l) ∧ w.grownBy w' v.ownBlock := by
  have K := Lib.hid (C_stable base v l w h hn)
  obtain ⟨A, cap, rfl, hc, hm, hA⟩ := own3.form h
  clear h hA
  go_enter Try.func101, Try.ntmps101
  go_wp2_with fail
  refine K.out.mono ?_; rintro e w1 ⟨rfl, ho, hg⟩
  have HO := Lib.hid (And.intro ho hg)
  clear ho hg
  go_wp2
  go_end0
  exact ⟨rfl, HO.out⟩
end Go.Proofs.Ytcdffikambbleaa
