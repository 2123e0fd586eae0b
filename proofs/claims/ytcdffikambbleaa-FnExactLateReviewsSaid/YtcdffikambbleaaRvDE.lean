/- How the laws compare lists of reviews; facts on verdicts. No condition but those stated. -/
import Derived.Test.YtcdffikambbleaaRLaw
import Derived.Test.YtcdffikambbleaaRevP
namespace Go.Proofs.Ytcdffikambbleaa
set_option linter.unusedVariables false
set_option linter.unusedSimpArgs false
open Go.RowKit Go.Sort
set_option maxHeartbeats 2000000 in
theorem C_rReviews (v v' : Value) (n : Nat) (R : Nat → Rv) (w : World) (h : RRs w v n R) (h' : RRs w v' n R) :
    Calls Try.prog 54 #[v, v'] w fun e w' => e = .returned (.bool true) ∧ Below w.heap.size w w' := by
  obtain ⟨A, cap, rfl, hr, hc, hm⟩ := h
  obtain ⟨A', cap', rfl, hr', hc', hm'⟩ := h'
  have HR := Lib.hid hr; clear hr
  have HR' := Lib.hid hr'; clear hr'
  go_enter Try.func54, Try.ntmps54
  go_wp2
  go_loopw [5] (fun i wr => ∃ k : Nat, k ≤ n ∧ i = .int .i64 k ∧ Below w.heap.size w wr) (fun i _ => n - (intOf i).toNat)
  case atStart => exact ⟨0, Nat.zero_le _, rfl, Below.refl _ _⟩
  case round =>
    obtain ⟨k, hk, rfl, hB⟩ := hrel
    have hzB := hB.size
    by_cases hlt : k < n
    · obtain ⟨b, off, rfl, hb, hcell⟩ := RRs.at_ hB HR.out (by omega)
      obtain ⟨b', off', rfl, hb', hcell'⟩ := RRs.at_ hB HR'.out (by omega)
      obtain ⟨sv, hsv, hck0, hck1, hck2⟩ := hcell k hlt; have hsv0 := hsv; obtain ⟨A1, c1, rfl, hsr1, hsc1, hsm1⟩ := hsv0; clear hsr1
      obtain ⟨sv', hsv', hck0', hck1', hck2'⟩ := hcell' k hlt; have hsv0' := hsv'; obtain ⟨A1', c1', rfl, hsr1', hsc1', hsm1'⟩ := hsv0'; clear hsr1'
      have hk0 : (0 : Int) ≤ (k : Int) := by omega
      have hk1 : (k : Int) < (n : Int) := by omega
      have hg0 := cell_regrown hck0; have hg1 := cell_regrown hck1; have hg2 := cell_regrown hck2
      have hg0' := cell_regrown hck0'; have hg1' := cell_regrown hck1'; have hg2' := cell_regrown hck2'
      have HE : ∀ d os, Calls Try.prog 56 #[.slice A1 (R k).n c1, .slice A1' (R k).n c1'] (grow (redrawn wr d) os) fun e w'' => e = .returned (.bool true) ∧ ∃ p : Regrown, w'' = grow (redrawn wr p.d) p.os :=
        fun d os => Calls.regrown_of (C_rInts _ _ _ _ _ (hsv.below (below_regrown _ _ _)) (hsv'.below (below_regrown _ _ _)))
      clear hcell hcell'
      go_wp2
      (refine wp_region_quiet_below (by kernel_rfl) (by kernel_rfl) ?_; (repeat (go_big_quiet_step (exact HE _ _))); refine wpQuiet_nil ?_; intro _ hw'; obtain ⟨⟨dq, osq⟩, hw''⟩ := hw'; subst hw'')
      go_wp2
      go_roundw
      case rel => exact ⟨k + 1, by omega, by go_num, by (repeat (first | with_reducible exact Below.refl _ _ | with_reducible exact below_regrown _ _ _ | with_reducible refine bel_step0 (by assumption) ?_ | with_reducible refine bel_alloc0 ?_ _ | with_reducible refine bel_regrown0 ?_ _ _ | with_reducible refine bel_regrown ?_ (by first | omega | (simp; done) | (simp; omega)) _ _ | with_reducible refine below_drewN ?_ _ | with_reducible refine Below.drew ?_ | with_reducible refine Below.alloc ?_ (by first | omega | (simp; done) | (simp; omega)) _ | with_reducible refine Below.setCell ?_ (by first | omega | (simp; done) | (simp; omega)) _ | with_reducible refine bel_step (by assumption) (by first | omega | (simp; done) | (simp; omega)) ?_ | with_reducible refine bel_grown (by assumption) (by first | omega | (simp; done) | (simp; omega)) (by first | omega | (simp; done) | (simp; omega)) ?_))⟩
      case measure => simp [intOf]; omega
    · go_wp2
      go_ret
      exact ⟨rfl, hB⟩
/-- How many of the first k reviews have a verdict. -/
theorem decl_sum (R : Nat → Rv) (k : Nat) (h : ∀ j, j < k → 0 ≤ verdict (R j).n (R j).f ∧ verdict (R j).n (R j).f ≤ 3) : (decl R 0 k).length + (decl R 1 k).length + (decl R 2 k).length + (decl R 3 k).length = k := by
  induction k with
  | zero => rfl
  | succ k ih =>
    have ih := ih fun j hj => h j (by omega)
    obtain ⟨h0, h3⟩ := h k (by omega)
    simp only [decl, List.length_append]
    generalize verdict (R k).n (R k).f = x at h0 h3
    have : x = 0 ∨ x = 1 ∨ x = 2 ∨ x = 3 := by omega
    rcases this with rfl | rfl | rfl | rfl <;> simp <;> omega
theorem verdict_range (n : Nat) (f : Nat → Int) : 0 ≤ verdict n f ∧ verdict n f ≤ 3 := by
  unfold verdict
  repeat' split
  all_goals omega
/-- Each undecided review lacks one to three votes. -/
theorem missing_none (R : Nat → Rv) (k : Nat) : ((decl R 0 k).length : Int) ≤ missing R k ∧ missing R k ≤ 3 * (decl R 0 k).length := by
  induction k with
  | zero => simp [decl, missing]
  | succ k ih =>
    simp only [decl, missing, List.length_append]
    by_cases hn : (R k).n < 3
    · have e : (verdict (R k).n (R k).f == 0) = true := by rw [verdict, if_pos (by omega)]; rfl
      simp only [e, if_true, List.length_singleton]
      omega
    · have e : (verdict (R k).n (R k).f == 0) = false := by
        rw [verdict, if_neg (by omega)]
        split
        · rfl
        · split <;> rfl
      simp only [e, Bool.false_eq_true, if_false, List.length_nil]
      omega
/-- The first k verdicts' reviews, counted. -/
def cntV (m : Nat) (R : Nat → Rv) : Nat → Nat
  | 0 => 0
  | k + 1 => cntV m R k + (decided m R k).length
theorem decided_le (m : Nat) (R : Nat → Rv) (x : Int) : (decided m R x).length ≤ 10 := by
  unfold decided
  split
  · rename_i h
    simp only [okD, Bool.and_eq_true] at h
    have := okRs_le h.1
    have := decl_le R x m
    omega
  · simp
theorem okD_in {m : Nat} {R : Nat → Rv} {k : Nat} (hk : k < 4) : okD m R k = okRs m R := by
  have : within (k : Int) 0 3 = true := within_iff.2 ⟨by omega, by omega⟩
  simp [okD, this]
theorem cntV_le (m : Nat) (R : Nat → Rv) (k : Nat) : cntV m R k ≤ 10 * k := by
  induction k with
  | zero => exact Nat.le_refl _
  | succ k ih => have := decided_le m R k; simp only [cntV]; omega
theorem cntV_all {m : Nat} {R : Nat → Rv} (h : okRs m R = true) : cntV m R 4 = m := by
  have e : ∀ k : Nat, k < 4 → decided m R k = decl R k m := fun k hk => by unfold decided; rw [okD_in hk, h]; rfl
  have h0 := e 0 (by omega)
  have h1 := e 1 (by omega)
  have h2 := e 2 (by omega)
  have h3 := e 3 (by omega)
  simp only [cntV, h0, h1, h2, h3]
  have := decl_sum R m (fun j _ => verdict_range _ _)
  simp only [Nat.zero_add]
  exact this
theorem none_bounds (m : Nat) (R : Nat → Rv) : ((decided m R 0).length : Int) ≤ votesMissing m R ∧ votesMissing m R ≤ 3 * (decided m R 0).length := by
  unfold votesMissing
  cases h : okRs m R
  · simp [decided, okD, h]
  · have e : decided m R 0 = decl R 0 m := by
      have := okD_in (m := m) (R := R) (k := 0) (by omega)
      unfold decided
      rw [show okD m R 0 = true from this.trans h]; rfl
    rw [e]
    exact missing_none R m
theorem missing_bd (m : Nat) (R : Nat → Rv) : 0 ≤ votesMissing m R ∧ votesMissing m R ≤ 30 := by
  unfold votesMissing
  split
  · rename_i h
    have := okRs_le h
    have := missing_le R m
    omega
  · omega
/-- What is put off is not to be decided later. -/
theorem putoff_none {n : Nat} {R : Nat → Rv} {d : Int} (h : putOk n R d = true) : decided n (fun j => (putR R d j).rv) 3 = [] ∧ okD n (fun j => (putR R d j).rv) 3 = true := by
  have hok : okRs n (fun j => (putR R d j).rv) = true := by simp only [putOk, Bool.and_eq_true] at h; exact h.2
  have ho : okD n (fun j => (putR R d j).rv) 3 = true := by
    have := okD_in (m := n) (R := fun j => (putR R d j).rv) (k := 3) (by omega)
    exact this.trans hok
  refine ⟨?_, ho⟩
  have key : ∀ k, decl (fun j => (putR R d j).rv) 3 k = [] := by
    intro k
    induction k with
    | zero => rfl
    | succ k ih =>
      have e : (verdict (putR R d k).rv.n (putR R d k).rv.f == 3) = false := by
        unfold putR
        split
        · rfl
        · rename_i hv
          have e2 : verdict (toL (R k)).rv.n (toL (R k)).rv.f = verdict (R k).n (R k).f := verdict_lst _ _
          rw [e2]
          simpa using hv
      simp only [decl, ih, e, List.nil_append]
      rfl
  unfold decided
  rw [ho, if_pos rfl, key]
end Go.Proofs.Ytcdffikambbleaa
