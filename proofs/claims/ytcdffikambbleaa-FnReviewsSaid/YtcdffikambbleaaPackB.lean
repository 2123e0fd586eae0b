/- Texts of this claim in one: RLaw, RTab, RvDE, Ins, RvEA, RvEB, RvEC, RvED, RvEE, RvEF, RvEG, RvEH. No condition but those stated. -/
import Derived.Test.YtcdffikambbleaaIntsE
import Derived.BigQuiet
import Derived.Test.YtcdffikambbleaaRevQ
import Derived.Test.YtcdffikambbleaaRevP
import Derived.Test.YtcdffikambbleaaBase
import Derived.Test.YtcdffikambbleaaPackA
import Derived.Test.YtcdffikambbleaaRevT
import Derived.BigRegion
import Derived.Test.YtcdffikambbleaaRevS
import Derived.Test.YtcdffikambbleaaRevZ
/- How the laws compare: numbers and lists of numbers. No condition but those stated. -/
namespace Go.Proofs.Ytcdffikambbleaa
set_option linter.unusedVariables false
set_option linter.unusedSimpArgs false
open Go.RowKit Go.Sort
theorem C_rInts (v v' : Value) (n : Nat) (f : Nat → Int) (w : World) (h : SI w v n f) (h' : SI w v' n f) :
    Calls Try.prog 56 #[v, v'] w fun e w' => e = .returned (.bool true) ∧ Below w.heap.size w w' := by
  obtain ⟨A, cap, rfl, hr, hc, hm⟩ := h
  obtain ⟨A', cap', rfl, hr', hc', hm'⟩ := h'
  have HR := Lib.hid hr; clear hr
  have HR' := Lib.hid hr'; clear hr'
  go_enter Try.func56, Try.ntmps56
  go_wp2
  go_loopw [5] (fun i wr => ∃ k : Nat, k ≤ n ∧ i = .int .i64 k ∧ Below w.heap.size w wr) (fun i _ => n - (intOf i).toNat)
  case atStart => exact ⟨0, Nat.zero_le _, rfl, Below.refl _ _⟩
  case round =>
    obtain ⟨k, hk, rfl, hB⟩ := hrel
    by_cases hlt : k < n
    · obtain ⟨b, off, rfl, hb, hcell⟩ := (HR.out.below hB) (by omega)
      obtain ⟨b', off', rfl, hb', hcell'⟩ := (HR'.out.below hB) (by omega)
      have hck := hcell k hlt
      have hck' := hcell' k hlt
      have hk0 : (0 : Int) ≤ (k : Int) := by omega
      have hk1 : (k : Int) < (n : Int) := by omega
      clear hcell hcell'
      go_wp2
      go_quiet (fail)
      go_wp2
      go_roundw
      case rel => exact ⟨k + 1, by omega, by go_num, by (repeat (first | with_reducible exact Below.refl _ _ | with_reducible exact below_regrown _ _ _ | with_reducible refine bel_step0 (by assumption) ?_ | with_reducible refine bel_alloc0 ?_ _ | with_reducible refine bel_regrown0 ?_ _ _ | with_reducible refine bel_regrown ?_ (by first | omega | (simp; done) | (simp; omega)) _ _ | with_reducible refine below_drewN ?_ _ | with_reducible refine Below.drew ?_ | with_reducible refine Below.alloc ?_ (by first | omega | (simp; done) | (simp; omega)) _ | with_reducible refine Below.setCell ?_ (by first | omega | (simp; done) | (simp; omega)) _ | with_reducible refine bel_step (by assumption) (by first | omega | (simp; done) | (simp; omega)) ?_ | with_reducible refine bel_grown (by assumption) (by first | omega | (simp; done) | (simp; omega)) (by first | omega | (simp; done) | (simp; omega)) ?_))⟩
      case measure => simp [intOf]; omega
    · go_wp2
      go_ret
      exact ⟨rfl, hB⟩
theorem C_rHas (v : Value) (n : Nat) (f : Nat → Int) (x : Int) (w : World) (h : SI w v n f) :
    Calls Try.prog 64 #[v, .int .i64 x] w fun e w' => e = .returned (.bool (anyB n fun j => f j == x)) ∧ w = w' := by
  obtain ⟨A, cap, rfl, hr, hc, hm⟩ := h
  have HR := Lib.hid hr; clear hr
  go_enter Try.func64, Try.ntmps64
  go_wp2
  go_loop [5] (fun i => ∃ k : Nat, k ≤ n ∧ i = .int .i64 k ∧ anyB k (fun j => f j == x) = false) (fun i => n - (intOf i).toNat)
  case atStart => exact ⟨0, Nat.zero_le _, rfl, rfl⟩
  case round =>
    obtain ⟨k, hk, rfl, ha⟩ := hrel
    have HA := Lib.hid ha; clear ha
    by_cases hlt : k < n
    · obtain ⟨b, off, rfl, hb, hcell⟩ := HR.out (by omega)
      have hck := hcell k hlt
      clear hcell
      go_wp2
      all_goals first
        | (go_ret; exact ⟨ret_bool (anyB_of hlt (by simp [*])).symm, rfl⟩)
        | (go_round; (case rel => exact ⟨k + 1, by omega, by go_num, anyB_next HA.out (by simp [*])⟩); (case measure => simp [intOf]; omega))
    · go_wp2
      (go_ret; obtain rfl : k = n := (by omega); exact ⟨ret_bool HA.out.symm, rfl⟩)
end Go.Proofs.Ytcdffikambbleaa

/- How the laws compare tables. No condition but those stated. -/
namespace Go.Proofs.Ytcdffikambbleaa
set_option linter.unusedVariables false
set_option linter.unusedSimpArgs false
open Go.RowKit Go.Sort
theorem C_rTable (v v' : Value) (n : Nat) (L : Nat → List Int) (w : World) (h : SSI w v n L) (h' : SSI w v' n L) :
    Calls Try.prog 68 #[v, v'] w fun e w' => e = .returned (.bool true) ∧ Below w.heap.size w w' := by
  obtain ⟨A, cap, rfl, hr, hc, hm⟩ := h
  obtain ⟨A', cap', rfl, hr', hc', hm'⟩ := h'
  have HR := Lib.hid hr; clear hr
  have HR' := Lib.hid hr'; clear hr'
  go_enter Try.func68, Try.ntmps68
  go_wp2
  go_loopw [5] (fun i wr => ∃ k : Nat, k ≤ n ∧ i = .int .i64 k ∧ Below w.heap.size w wr) (fun i _ => n - (intOf i).toNat)
  case atStart => exact ⟨0, Nat.zero_le _, rfl, Below.refl _ _⟩
  case round =>
    obtain ⟨k, hk, rfl, hB⟩ := hrel; have hzB := hB.size
    by_cases hlt : k < n
    · obtain ⟨b, off, rfl, hb, hcell⟩ := SSI.at_ hB HR.out (by omega)
      obtain ⟨b', off', rfl, hb', hcell'⟩ := SSI.at_ hB HR'.out (by omega)
      obtain ⟨sv, hsv, hck⟩ := hcell k hlt
      obtain ⟨sv', hsv', hck'⟩ := hcell' k hlt
      obtain ⟨L1, hL1⟩ : ∃ m, (L k).length = m := ⟨_, rfl⟩
      rw [hL1] at hsv hsv'
      have hs0 := hsv; have hs0' := hsv'
      obtain ⟨A1, c1, rfl, _, hd1, hd2⟩ := hs0
      obtain ⟨A1', c1', rfl, _, hd1', hd2'⟩ := hs0'
      have hk0 : (0 : Int) ≤ (k : Int) := by omega
      have hk1 : (k : Int) < (n : Int) := by omega
      have hg0 := cell_regrown hck
      have hg0' := cell_regrown hck'
      have HE : ∀ d os, Calls Try.prog 56 #[.slice A1 L1 c1, .slice A1' L1 c1'] (grow (redrawn wr d) os) fun e w'' => e = .returned (.bool true) ∧ ∃ p : Regrown, w'' = grow (redrawn wr p.d) p.os :=
        fun d os => Calls.regrown_of (C_rInts _ _ _ _ _ (hsv.below (below_regrown _ _ _)) (hsv'.below (below_regrown _ _ _)))
      clear hcell hcell' hL1
      go_wp2
      (refine wp_region_quiet_below (by kernel_rfl) (by kernel_rfl) ?_; (repeat (go_big_quiet_step (exact HE _ _))); refine wpQuiet_nil ?_; intro _ hw'; obtain ⟨⟨dq, osq⟩, hw''⟩ := hw'; subst hw'')
      go_wp2
      go_roundw
      case rel => exact ⟨k + 1, by omega, by go_num, by (repeat (first | with_reducible exact Below.refl _ _ | with_reducible exact below_regrown _ _ _ | with_reducible refine bel_step0 (by assumption) ?_ | with_reducible refine bel_alloc0 ?_ _ | with_reducible refine bel_regrown0 ?_ _ _ | with_reducible refine bel_regrown ?_ (by first | omega | (simp; done) | (simp; omega)) _ _ | with_reducible refine below_drewN ?_ _ | with_reducible refine Below.drew ?_ | with_reducible refine Below.alloc ?_ (by first | omega | (simp; done) | (simp; omega)) _ | with_reducible refine Below.setCell ?_ (by first | omega | (simp; done) | (simp; omega)) _ | with_reducible refine bel_step (by assumption) (by first | omega | (simp; done) | (simp; omega)) ?_ | with_reducible refine bel_grown (by assumption) (by first | omega | (simp; done) | (simp; omega)) (by first | omega | (simp; done) | (simp; omega)) ?_))⟩
      case measure => simp [intOf]; omega
    · go_wp2
      go_ret
      exact ⟨rfl, hB⟩
end Go.Proofs.Ytcdffikambbleaa

/- How the laws compare lists of reviews; facts on verdicts. No condition but those stated. -/
namespace Go.Proofs.Ytcdffikambbleaa
set_option linter.unusedVariables false
set_option linter.unusedSimpArgs false
open Go.RowKit Go.Sort
set_option maxHeartbeats 2000000 in
theorem C_rReviews (v v' : Value) (n : Nat) (R : Nat → Rv) (w : World) (h : RRs w v n R) (h' : RRs w v' n R) :
    Calls Try.prog 54 #[v, v'] w fun e w' => e = .returned (.bool true) ∧ Below w.heap.size w w' := by
  obtain ⟨A, cap, rfl, hr, hc, hm⟩ := h
  obtain ⟨A', cap', rfl, hr', hc', hm'⟩ := h'
  have HR := Lib.hid hr; clear hr
  have HR' := Lib.hid hr'; clear hr'
  go_enter Try.func54, Try.ntmps54
  go_wp2
  go_loopw [5] (fun i wr => ∃ k : Nat, k ≤ n ∧ i = .int .i64 k ∧ Below w.heap.size w wr) (fun i _ => n - (intOf i).toNat)
  case atStart => exact ⟨0, Nat.zero_le _, rfl, Below.refl _ _⟩
  case round =>
    obtain ⟨k, hk, rfl, hB⟩ := hrel
    have hzB := hB.size
    by_cases hlt : k < n
    · obtain ⟨b, off, rfl, hb, hcell⟩ := RRs.at_ hB HR.out (by omega)
      obtain ⟨b', off', rfl, hb', hcell'⟩ := RRs.at_ hB HR'.out (by omega)
      obtain ⟨sv, hsv, hck0, hck1, hck2⟩ := hcell k hlt; have hsv0 := hsv; obtain ⟨A1, c1, rfl, hsr1, hsc1, hsm1⟩ := hsv0; clear hsr1
      obtain ⟨sv', hsv', hck0', hck1', hck2'⟩ := hcell' k hlt; have hsv0' := hsv'; obtain ⟨A1', c1', rfl, hsr1', hsc1', hsm1'⟩ := hsv0'; clear hsr1'
      have hk0 : (0 : Int) ≤ (k : Int) := by omega
      have hk1 : (k : Int) < (n : Int) := by omega
      have hg0 := cell_regrown hck0; have hg1 := cell_regrown hck1; have hg2 := cell_regrown hck2
      have hg0' := cell_regrown hck0'; have hg1' := cell_regrown hck1'; have hg2' := cell_regrown hck2'
      have HE : ∀ d os, Calls Try.prog 56 #[.slice A1 (R k).n c1, .slice A1' (R k).n c1'] (grow (redrawn wr d) os) fun e w'' => e = .returned (.bool true) ∧ ∃ p : Regrown, w'' = grow (redrawn wr p.d) p.os :=
        fun d os => Calls.regrown_of (C_rInts _ _ _ _ _ (hsv.below (below_regrown _ _ _)) (hsv'.below (below_regrown _ _ _)))
      clear hcell hcell'
      go_wp2
      (refine wp_region_quiet_below (by kernel_rfl) (by kernel_rfl) ?_; (repeat (go_big_quiet_step (exact HE _ _))); refine wpQuiet_nil ?_; intro _ hw'; obtain ⟨⟨dq, osq⟩, hw''⟩ := hw'; subst hw'')
      go_wp2
      go_roundw
      case rel => exact ⟨k + 1, by omega, by go_num, by (repeat (first | with_reducible exact Below.refl _ _ | with_reducible exact below_regrown _ _ _ | with_reducible refine bel_step0 (by assumption) ?_ | with_reducible refine bel_alloc0 ?_ _ | with_reducible refine bel_regrown0 ?_ _ _ | with_reducible refine bel_regrown ?_ (by first | omega | (simp; done) | (simp; omega)) _ _ | with_reducible refine below_drewN ?_ _ | with_reducible refine Below.drew ?_ | with_reducible refine Below.alloc ?_ (by first | omega | (simp; done) | (simp; omega)) _ | with_reducible refine Below.setCell ?_ (by first | omega | (simp; done) | (simp; omega)) _ | with_reducible refine bel_step (by assumption) (by first | omega | (simp; done) | (simp; omega)) ?_ | with_reducible refine bel_grown (by assumption) (by first | omega | (simp; done) | (simp; omega)) (by first | omega | (simp; done) | (simp; omega)) ?_))⟩
      case measure => simp [intOf]; omega
    · go_wp2
      go_ret
      exact ⟨rfl, hB⟩
/-- How many of the first k reviews have a verdict. -/
theorem decl_sum (R : Nat → Rv) (k : Nat) (h : ∀ j, j < k → 0 ≤ verdict (R j).n (R j).f ∧ verdict (R j).n (R j).f ≤ 3) : (decl R 0 k).length + (decl R 1 k).length + (decl R 2 k).length + (decl R 3 k).length = k := by
  induction k with
  | zero => rfl
  | succ k ih =>
    have ih := ih fun j hj => h j (by omega)
    obtain ⟨h0, h3⟩ := h k (by omega)
    simp only [decl, List.length_append]
    generalize verdict (R k).n (R k).f = x at h0 h3
    have : x = 0 ∨ x = 1 ∨ x = 2 ∨ x = 3 := by omega
    rcases this with rfl | rfl | rfl | rfl <;> simp <;> omega
theorem verdict_range (n : Nat) (f : Nat → Int) : 0 ≤ verdict n f ∧ verdict n f ≤ 3 := by
  unfold verdict
  repeat' split
  all_goals omega
/-- Each undecided review lacks one to three votes. -/
theorem missing_none (R : Nat → Rv) (k : Nat) : ((decl R 0 k).length : Int) ≤ missing R k ∧ missing R k ≤ 3 * (decl R 0 k).length := by
  induction k with
  | zero => simp [decl, missing]
  | succ k ih =>
    simp only [decl, missing, List.length_append]
    by_cases hn : (R k).n < 3
    · have e : (verdict (R k).n (R k).f == 0) = true := by rw [verdict, if_pos (by omega)]; rfl
      simp only [e, if_true, List.length_singleton]
      omega
    · have e : (verdict (R k).n (R k).f == 0) = false := by
        rw [verdict, if_neg (by omega)]
        split
        · rfl
        · split <;> rfl
      simp only [e, Bool.false_eq_true, if_false, List.length_nil]
      omega
/-- The first k verdicts' reviews, counted. -/
def cntV (m : Nat) (R : Nat → Rv) : Nat → Nat
  | 0 => 0
  | k + 1 => cntV m R k + (decided m R k).length
theorem decided_le (m : Nat) (R : Nat → Rv) (x : Int) : (decided m R x).length ≤ 10 := by
  unfold decided
  split
  · rename_i h
    simp only [okD, Bool.and_eq_true] at h
    have := okRs_le h.1
    have := decl_le R x m
    omega
  · simp
theorem okD_in {m : Nat} {R : Nat → Rv} {k : Nat} (hk : k < 4) : okD m R k = okRs m R := by
  have : within (k : Int) 0 3 = true := within_iff.2 ⟨by omega, by omega⟩
  simp [okD, this]
theorem cntV_le (m : Nat) (R : Nat → Rv) (k : Nat) : cntV m R k ≤ 10 * k := by
  induction k with
  | zero => exact Nat.le_refl _
  | succ k ih => have := decided_le m R k; simp only [cntV]; omega
theorem cntV_all {m : Nat} {R : Nat → Rv} (h : okRs m R = true) : cntV m R 4 = m := by
  have e : ∀ k : Nat, k < 4 → decided m R k = decl R k m := fun k hk => by unfold decided; rw [okD_in hk, h]; rfl
  have h0 := e 0 (by omega)
  have h1 := e 1 (by omega)
  have h2 := e 2 (by omega)
  have h3 := e 3 (by omega)
  simp only [cntV, h0, h1, h2, h3]
  have := decl_sum R m (fun j _ => verdict_range _ _)
  simp only [Nat.zero_add]
  exact this
theorem none_bounds (m : Nat) (R : Nat → Rv) : ((decided m R 0).length : Int) ≤ votesMissing m R ∧ votesMissing m R ≤ 3 * (decided m R 0).length := by
  unfold votesMissing
  cases h : okRs m R
  · simp [decided, okD, h]
  · have e : decided m R 0 = decl R 0 m := by
      have := okD_in (m := m) (R := R) (k := 0) (by omega)
      unfold decided
      rw [show okD m R 0 = true from this.trans h]; rfl
    rw [e]
    exact missing_none R m
theorem missing_bd (m : Nat) (R : Nat → Rv) : 0 ≤ votesMissing m R ∧ votesMissing m R ≤ 30 := by
  unfold votesMissing
  split
  · rename_i h
    have := okRs_le h
    have := missing_le R m
    omega
  · omega
/-- What is put off is not to be decided later. -/
theorem putoff_none {n : Nat} {R : Nat → Rv} {d : Int} (h : putOk n R d = true) : decided n (fun j => (putR R d j).rv) 3 = [] ∧ okD n (fun j => (putR R d j).rv) 3 = true := by
  have hok : okRs n (fun j => (putR R d j).rv) = true := by simp only [putOk, Bool.and_eq_true] at h; exact h.2
  have ho : okD n (fun j => (putR R d j).rv) 3 = true := by
    have := okD_in (m := n) (R := fun j => (putR R d j).rv) (k := 3) (by omega)
    exact this.trans hok
  refine ⟨?_, ho⟩
  have key : ∀ k, decl (fun j => (putR R d j).rv) 3 k = [] := by
    intro k
    induction k with
    | zero => rfl
    | succ k ih =>
      have e : (verdict (putR R d k).rv.n (putR R d k).rv.f == 3) = false := by
        unfold putR
        split
        · rfl
        · rename_i hv
          have e2 : verdict (toL (R k)).rv.n (toL (R k)).rv.f = verdict (R k).n (R k).f := verdict_lst _ _
          rw [e2]
          simpa using hv
      simp only [decl, ih, e, List.nil_append]
      rfl
  unfold decided
  rw [ho, if_pos rfl, key]
end Go.Proofs.Ytcdffikambbleaa

/- Insertion in order, as plain lists. No condition but those stated. -/
namespace Go.Proofs.Ytcdffikambbleaa
set_option linter.unusedVariables false
section
/-- x put at the place k. -/
def insAt {α : Type} (l : List α) (k : Nat) (x : α) : List α := l.take k ++ x :: l.drop k
theorem insAt_len {α : Type} (l : List α) (k : Nat) (x : α) : (insAt l k x).length = l.length + 1 := by
  unfold insAt; simp; omega
theorem insAt_all {α : Type} (l : List α) (x : α) : insAt l l.length x = l ++ [x] := by unfold insAt; simp
variable {α : Type} [Inhabited α]
def atE (l : List α) (j : Nat) : α := l.getD j default
theorem atE_get {l : List α} {j : Nat} (h : j < l.length) : atE l j = l[j] := by
  unfold atE; rw [List.getD_eq_getElem?_getD, List.getElem?_eq_getElem h]; rfl
theorem atE_some {l : List α} {j : Nat} (h : j < l.length) : l[j]? = some (atE l j) := by rw [atE_get h, List.getElem?_eq_getElem h]
theorem atE_app_left {l r : List α} {j : Nat} (h : j < l.length) : atE (l ++ r) j = atE l j := by
  unfold atE; rw [List.getD_eq_getElem?_getD, List.getElem?_append_left h, List.getD_eq_getElem?_getD]
theorem atE_app_right {l r : List α} {j : Nat} (h : l.length ≤ j) : atE (l ++ r) j = atE r (j - l.length) := by
  unfold atE; rw [List.getD_eq_getElem?_getD, List.getElem?_append_right h, List.getD_eq_getElem?_getD]
theorem insAt_here {l : List α} {k : Nat} {x : α} (h : k ≤ l.length) : atE (insAt l k x) k = x := by
  unfold insAt
  rw [atE_app_right (by simp; omega)]
  have : k - (l.take k).length = 0 := by simp; omega
  rw [this]; rfl
theorem insAt_before {l : List α} {j k : Nat} {x : α} (h : j < k) (hk : k ≤ l.length) : atE (insAt l k x) j = atE l j := by
  unfold insAt
  rw [atE_app_left (by simp; omega)]
  unfold atE
  rw [List.getD_eq_getElem?_getD, List.getD_eq_getElem?_getD, List.getElem?_take_of_lt h]
theorem insAt_behind {l : List α} {j k : Nat} {x : α} (h : k < j) (hj : j ≤ l.length) : atE (insAt l k x) j = atE l (j - 1) := by
  unfold insAt
  rw [atE_app_right (by simp; omega)]
  have e : j - (l.take k).length = (j - k - 1) + 1 := by simp; omega
  rw [e]
  show atE (l.drop k) (j - k - 1) = _
  unfold atE
  rw [List.getD_eq_getElem?_getD, List.getD_eq_getElem?_getD, List.getElem?_drop, show k + (j - k - 1) = j - 1 by omega]
theorem ext_atE {l r : List α} (h : l.length = r.length) (e : ∀ j, j < l.length → atE l j = atE r j) : l = r := by
  apply List.ext_getElem h
  intro j h1 h2
  have := e j h1
  rwa [atE_get h1, atE_get h2] at this
theorem atE_set {l : List α} {i j : Nat} {x : α} (hj : j < l.length) : atE (l.set i x) j = if i = j then x else atE l j := by
  rw [atE_get (by simpa using hj), atE_get hj, List.getElem_set]
/-- An exchange with the neighbour moves x one place down. -/
theorem swap_ins {p rest : List α} {j : Nat} {x : α} (h : j < p.length) :
    ((insAt p (j + 1) x ++ rest).set (j + 1) (atE (insAt p (j + 1) x ++ rest) j)).set j (atE (insAt p (j + 1) x ++ rest) (j + 1)) = insAt p j x ++ rest := by
  have hl := insAt_len p (j + 1) x
  have hl2 := insAt_len p j x
  have a1 : atE (insAt p (j + 1) x ++ rest) j = atE p j := by rw [atE_app_left (by omega), insAt_before (by omega) (by omega)]
  have a2 : atE (insAt p (j + 1) x ++ rest) (j + 1) = x := by rw [atE_app_left (by omega), insAt_here (by omega)]
  rw [a1, a2]
  apply ext_atE
  · simp [hl, hl2]
  · intro i hi
    simp only [List.length_set, List.length_append, hl] at hi
    rw [atE_set (by simp [hl]; omega), atE_set (by simp [hl]; omega)]
    by_cases e1 : j = i
    · subst e1
      rw [if_pos rfl, atE_app_left (by omega), insAt_here (by omega)]
    · rw [if_neg e1]
      by_cases e2 : j + 1 = i
      · subst e2
        rw [if_pos rfl, atE_app_left (by omega), insAt_behind (by omega) (by omega)]; rfl
      · rw [if_neg e2]
        by_cases e3 : i < p.length + 1
        · rw [atE_app_left (by omega), atE_app_left (by omega)]
          by_cases e4 : i < j
          · rw [insAt_before (by omega) (by omega), insAt_before e4 (by omega)]
          · rw [insAt_behind (by omega) (by omega), insAt_behind (by omega) (by omega)]
        · rw [atE_app_right (by omega), atE_app_right (by omega), hl, hl2]
/-- The place behind the elements that x does not come before. -/
def posE (lt : α → α → Bool) (l : List α) (x : α) : Nat → Nat
  | 0 => 0
  | k + 1 => if lt x (atE l k) then posE lt l x k else k + 1
theorem posE_le (lt : α → α → Bool) (l : List α) (x : α) (k : Nat) : posE lt l x k ≤ k := by
  induction k with
  | zero => exact Nat.le_refl _
  | succ k ih => unfold posE; split <;> omega
theorem posE_yes {lt : α → α → Bool} {l : List α} {x : α} {k : Nat} (h : lt x (atE l k) = true) : posE lt l x (k + 1) = posE lt l x k := by rw [posE, if_pos h]
theorem posE_no {lt : α → α → Bool} {l : List α} {x : α} {k : Nat} (h : lt x (atE l k) = false) : posE lt l x (k + 1) = k + 1 := by rw [posE, h]; rfl
def insE (lt : α → α → Bool) (l : List α) (x : α) : List α := insAt l (posE lt l x l.length) x
def srtE (lt : α → α → Bool) (l : List α) : List α := l.foldl (insE lt) []
theorem srtE_snoc (lt : α → α → Bool) (l : List α) (x : α) : srtE lt (l ++ [x]) = insE lt (srtE lt l) x := by simp [srtE, List.foldl_append]
theorem srtE_len (lt : α → α → Bool) (l : List α) : (srtE lt l).length = l.length := by
  have key : ∀ (l s : List α), (l.foldl (insE lt) s).length = s.length + l.length := by
    intro l
    induction l with
    | nil => intro s; rfl
    | cons x l ih =>
      intro s
      rw [List.foldl_cons, ih, insE, insAt_len, List.length_cons]; omega
  rw [srtE, key]; simp
theorem take_snocE {l : List α} {k : Nat} (h : k < l.length) : l.take (k + 1) = l.take k ++ [atE l k] := by
  rw [List.take_succ_eq_append_getElem h, atE_get h]
theorem drop_consE {l : List α} {k : Nat} (h : k < l.length) : l.drop k = atE l k :: l.drop (k + 1) := by
  rw [atE_get h, List.drop_eq_getElem_cons h]
end
end Go.Proofs.Ytcdffikambbleaa

/- Sorting late reviews: the library's insertion sort. No condition but those stated. -/
namespace Go.Proofs.Ytcdffikambbleaa
set_option linter.unusedVariables false
set_option linter.unusedSimpArgs false
open Go.RowKit Go.Sort
/-- A review as its three cells tell it. -/
structure El where
  rid : Int
  due : Int
  A : Option Addr
  n : Nat
  c : Nat
instance : Inhabited El := ⟨⟨0, 0, none, 0, 0⟩⟩
def cE (x : El) (m : Nat) : Value := if m = 0 then .int .i64 x.rid else if m = 1 then .int .i64 x.due else .slice x.A x.n x.c
def ltE (x y : El) : Bool := decide (x.due < y.due)
def OE (base : Nat) (w : World) (v : Value) (l : List El) : Prop := own3 base w v l.length (fun i => cE (atE l (i / 3)) (i % 3))
theorem OE.below {base : Nat} {w w' : World} {v : Value} {l : List El} (hb : Below w.heap.size w w') (h : OE base w v l) : OE base w' v l := own3.below hb h
theorem OE.alloc {base : Nat} {w : World} {v : Value} {l : List El} (h : OE base w v l) (o : Obj) : OE base (w.alloc o) v l := h.below ((Below.refl _ _).alloc (Nat.le_refl _) o)
theorem OE.nil (base : Nat) (w : World) : OE base w (.slice none 0 0) [] := ⟨[], World.ownsRow_nil w base _ _, fun i hi => absurd hi (by simp)⟩
def cmpI (a b : Int) : Int := if a < b then -1 else if b < a then 1 else 0
theorem cmpI_lt (a b : Int) : decide (cmpI a b < 0) = decide (a < b) := by
  unfold cmpI
  by_cases h : a < b
  · simp [h]
  · by_cases h2 : b < a <;> simp [h, h2]
theorem C_isNaNI (a : Int) (w : World) : Calls Try.prog 116 #[.int .i64 a] w fun e w' => e = .returned (.bool false) ∧ w = w' := by
  go_enter Try.func116, Try.ntmps116
  go_wp2
  go_ret
  exact ⟨by simp, rfl⟩
theorem C_CompareI (a b : Int) (w : World) : Calls Try.prog 103 #[.int .i64 a, .int .i64 b] w fun e w' => e = .returned (.int .i64 (cmpI a b)) ∧ w = w' := by
  by_cases h1 : a < b
  · go_enter Try.func103, Try.ntmps103
    go_wp2_with (go_at_call 116; refine (C_isNaNI _ _).mono ?_; rintro e w' ⟨rfl, rfl⟩)
    go_ret
    exact ⟨ret_int (by unfold cmpI; rw [if_pos h1]), rfl⟩
  · by_cases h2 : b < a
    · go_enter Try.func103, Try.ntmps103
      go_wp2_with (go_at_call 116; refine (C_isNaNI _ _).mono ?_; rintro e w' ⟨rfl, rfl⟩)
      go_ret
      exact ⟨ret_int (by unfold cmpI; rw [if_neg (by omega), if_pos h2]), rfl⟩
    · go_enter Try.func103, Try.ntmps103
      go_wp2_with (go_at_call 116; refine (C_isNaNI _ _).mono ?_; rintro e w' ⟨rfl, rfl⟩)
      go_ret
      exact ⟨ret_int (by unfold cmpI; rw [if_neg (by omega), if_neg (by omega)]), rfl⟩
theorem C_Late1 (x y : El) (w : World) : Calls Try.prog 102 #[.agg #[.int .i64 (x).rid, .int .i64 (x).due, .slice (x).A (x).n (x).c], .agg #[.int .i64 (y).rid, .int .i64 (y).due, .slice (y).A (y).n (y).c]] w fun e w' => e = .returned (.int .i64 (cmpI x.due y.due)) ∧ Below w.heap.size w w' := by
  go_enter Try.func102, Try.ntmps102
  go_wp2_with (go_at_call 103; refine (C_CompareI _ _ _).mono ?_; rintro e w' ⟨rfl, rfl⟩)
  go_ret
  exact ⟨rfl, by (repeat (first | with_reducible exact Below.refl _ _ | with_reducible exact below_regrown _ _ _ | with_reducible refine bel_step0 (by assumption) ?_ | with_reducible refine bel_alloc0 ?_ _ | with_reducible refine bel_regrown0 ?_ _ _ | with_reducible refine bel_regrown ?_ (by first | omega | (simp; done) | (simp; omega)) _ _ | with_reducible refine below_drewN ?_ _ | with_reducible refine Below.drew ?_ | with_reducible refine Below.alloc ?_ (by first | omega | (simp; done) | (simp; omega)) _ | with_reducible refine Below.setCell ?_ (by first | omega | (simp; done) | (simp; omega)) _ | with_reducible refine bel_step (by assumption) (by first | omega | (simp; done) | (simp; omega)) ?_ | with_reducible refine bel_grown (by assumption) (by first | omega | (simp; done) | (simp; omega)) (by first | omega | (simp; done) | (simp; omega)) ?_))⟩
theorem OE.cells {base : Nat} {w : World} {n cap g : Nat} {l : List El} (h : OE base w (.slice (some ⟨g, 0, none⟩) n cap) l) {j : Nat} (hj : j < l.length) :
    w.cell? ⟨g, j * 3, none⟩ = some (.int .i64 (atE l j).rid) ∧ w.cell? ⟨g, j * 3 + 1, none⟩ = some (.int .i64 (atE l j).due) ∧ w.cell? ⟨g, j * 3 + 2, none⟩ = some (.slice (atE l j).A (atE l j).n (atE l j).c) := by
  obtain ⟨A, cap', e, _, _, _⟩ := own3.form h
  injection e with e1 e2 e3
  subst e2
  refine ⟨?_, ?_, ?_⟩
  · have := own3.cell h (i := j * 3) (by omega)
    rw [show j * 3 / 3 = j by omega, show j * 3 % 3 = 0 by omega] at this; exact this
  · have := own3.cell h (i := j * 3 + 1) (by omega)
    rw [show (j * 3 + 1) / 3 = j by omega, show (j * 3 + 1) % 3 = 1 by omega] at this; exact this
  · have := own3.cell h (i := j * 3 + 2) (by omega)
    rw [show (j * 3 + 2) / 3 = j by omega, show (j * 3 + 2) % 3 = 2 by omega] at this; exact this
/-- An element stored at its place. -/
theorem OE.set {base : Nat} {w : World} {cap g : Nat} {l : List El} (h : OE base w (.slice (some ⟨g, 0, none⟩) l.length cap) l) {j : Nat} (hj : j < l.length) (x : El) :
    OE base (((w.setCell ⟨g, j * 3, none⟩ (.int .i64 x.rid)).setCell ⟨g, j * 3 + 1, none⟩ (.int .i64 x.due)).setCell ⟨g, j * 3 + 2, none⟩ (.slice x.A x.n x.c)) (.slice (some ⟨g, 0, none⟩) l.length cap) (l.set j x) := by
  have h1 := ((own3.set h (j * 3) (.int .i64 x.rid)).set (j * 3 + 1) (.int .i64 x.due)).set (j * 3 + 2) (.slice x.A x.n x.c)
  unfold OE
  rw [List.length_set]
  refine h1.congr fun i hi => ?_
  rw [atE_set (by omega)]
  show (if i = j * 3 + 2 then _ else if i = j * 3 + 1 then _ else if i = j * 3 then _ else cE (atE l (i / 3)) (i % 3)) = _
  by_cases e : j = i / 3
  · rw [if_pos e]
    have hm : i % 3 = 0 ∨ i % 3 = 1 ∨ i % 3 = 2 := by omega
    rcases hm with hm | hm | hm
    · rw [hm, if_neg (by omega), if_neg (by omega), if_pos (by omega)]; rfl
    · rw [hm, if_neg (by omega), if_pos (by omega)]; rfl
    · rw [hm, if_pos (by omega)]; rfl
  · rw [if_neg e, if_neg (by omega), if_neg (by omega), if_neg (by omega)]
theorem OE.frozen {base : Nat} {w : World} {n cap g : Nat} {l : List El} (h : OE base w (.slice (some ⟨g, 0, none⟩) n cap) l) (i : Nat) : w.frozen? ⟨g, i, none⟩ = false := by
  obtain ⟨A, cap', e, _, _, _⟩ := own3.form h
  injection e with e1 e2 e3
  subst e2
  exact own3.frozen h i
end Go.Proofs.Ytcdffikambbleaa

/- Sorting late reviews: the library's insertion sort, walked. No condition but those stated. -/
namespace Go.Proofs.Ytcdffikambbleaa
set_option linter.unusedVariables false
set_option linter.unusedSimpArgs false
open Go.RowKit Go.Sort
theorem grown_below {w w1 w2 : World} {g : Nat} (h : w.grownBy w1 (some g)) (hb : Below w1.heap.size w1 w2) : w.grownBy w2 (some g) :=
  ⟨hb.os.trans h.os, hb.tape.trans h.tape, hb.output.trans h.output, Nat.le_trans h.size hb.size, fun k hk hn => (hb.block k (Nat.lt_of_lt_of_le hk h.size)).trans (h.block k hk hn)⟩
theorem grown_set {w w1 : World} {g : Nat} (h : w.grownBy w1 (some g)) (i : Nat) (u : Value) : w.grownBy (w1.setCell ⟨g, i, none⟩ u) (some g) := only_setCell h (.inl rfl) u
theorem OE.drew {base : Nat} {w : World} {v : Value} {l : List El} (h : OE base w v l) : OE base w.drew v l := h
theorem OE.cap {base : Nat} {w : World} {A : Option Addr} {n cap : Nat} {l : List El} (h : OE base w (.slice A n cap) l) : l.length ≤ cap ∧ cap ≤ 9223372036854775807 := by
  obtain ⟨A', c', e, h1, h2, _⟩ := own3.form h
  injection e with e1 e2 e3
  rw [e3]
  exact ⟨h1, h2⟩
theorem srt_one (l : List El) : srtE ltE (l.take 1) = l.take 1 := by
  cases l with
  | nil => rfl
  | cons x r => rfl
set_option maxRecDepth 100000 in
set_option maxHeartbeats 4000000 in
theorem C_insSort (base g cap : Nat) (l : List El) (w : World) (h : OE base w (.slice (some ⟨g, 0, none⟩) l.length cap) l) (hn : l.length ≤ 1048576) :
    Calls Try.prog 119 #[.slice (some ⟨g, 0, none⟩) l.length cap, .int .i64 0, .int .i64 l.length, .func (.func 102) #[] #[]] w fun e w' =>
      e = .returned (.tuple #[]) ∧ OE base w' (.slice (some ⟨g, 0, none⟩) l.length cap) (srtE ltE l) ∧ w.grownBy w' (some g) := by
  obtain ⟨n, hln⟩ : ∃ n, l.length = n := ⟨_, rfl⟩
  obtain ⟨hcap, hcm⟩ := OE.cap h
  rw [hln] at hcap
  have HH := Lib.hid h
  rw [hln] at HH hn ⊢
  have HLN := Lib.hid hln
  clear h hln
  go_enter Try.func119, Try.ntmps119
  go_wp2
  go_loopw [8] (fun i wr => ∃ k : Nat, 1 ≤ k ∧ i = .int .i64 k ∧ k ≤ n + 1 ∧ OE base wr (.slice (some ⟨g, 0, none⟩) n cap) (srtE ltE (l.take k) ++ l.drop k) ∧ w.grownBy wr (some g)) (fun i _ => n + 1 - (intOf i).toNat)
  case atStart => exact ⟨1, by omega, rfl, by omega, by rw [srt_one, List.take_append_drop]; exact HH.out, World.grownBy.refl _ _⟩
  case round =>
    obtain ⟨k, hk1, rfl, hkn, ho, hg⟩ := hrel
    by_cases hlt : k < n
    · obtain ⟨p, hp⟩ : ∃ p, srtE ltE (l.take k) = p := ⟨_, rfl⟩
      obtain ⟨x, hx⟩ : ∃ x, atE l k = x := ⟨_, rfl⟩
      obtain ⟨rest, hrest⟩ : ∃ r, l.drop (k + 1) = r := ⟨_, rfl⟩
      have hkl : k < l.length := by rw [HLN.out]; exact hlt
      have hpl : p.length = k := by rw [← hp, srtE_len, List.length_take]; omega
      have hrl : rest.length = n - (k + 1) := by rw [← hrest, List.length_drop, HLN.out]
      have hnext : srtE ltE (l.take (k + 1)) = insAt p (posE ltE p x k) x := by
        rw [take_snocE hkl, srtE_snoc, hp, hx, insE, hpl]
      have hstart : srtE ltE (l.take k) ++ l.drop k = insAt p k x ++ rest := by
        rw [hp, drop_consE hkl, hx, hrest, ← hpl, insAt_all]; simp
      rw [hstart] at ho
      have HNEXT := Lib.hid (And.intro hnext hrest)
      have HO := Lib.hid ho
      have HG := Lib.hid hg
      have HPL := Lib.hid hpl
      clear hp hx hrest hnext hstart ho hg hkl
      go_wp2
      go_loopw [9] (fun i wi => ∃ j : Nat, i = .int .i64 j ∧ j ≤ k ∧ OE base wi (.slice (some ⟨g, 0, none⟩) n cap) (insAt p j x ++ rest) ∧ posE ltE p x k = posE ltE p x j ∧ w.grownBy wi (some g)) (fun i _ => (intOf i).toNat)
      case atStart => exact ⟨k, rfl, Nat.le_refl _, HO.out, rfl, HG.out⟩
      case round =>
        clear HO HG
        obtain ⟨j, rfl, hjk, ho, hpos, hg⟩ := hrel
        have HG := Lib.hid hg
        have HO := Lib.hid ho
        have hml : (insAt p j x ++ rest).length = n := by rw [List.length_append, insAt_len, HPL.out, hrl]; omega
        rcases j with _ | q
        · have HP := Lib.hid (show posE ltE p x k = 0 from hpos)
          clear hpos ho hg hml
          go_wp2
          (refine wp_region_quiet_below (by kernel_rfl) (by kernel_rfl) ?_; (repeat (go_big_quiet_step (fail))); refine wpQuiet_nil ?_; intro _ hw'; obtain ⟨⟨dq, osq⟩, hw''⟩ := hw'; subst hw'')
          go_wp2
          go_roundw
          case rel => exact ⟨k + 1, by omega, by go_num, by omega, by rw [HNEXT.out.1, HNEXT.out.2, HP.out]; exact HO.out.below (below_regrown _ _ _), grown_below HG.out (below_regrown _ _ _)⟩
          case measure => simp [intOf]; omega
        · have a1 : atE (insAt p (q + 1) x ++ rest) q = atE p q := by rw [atE_app_left (by rw [insAt_len, HPL.out]; omega), insAt_before (by omega) (by rw [HPL.out]; omega)]
          have a2 : atE (insAt p (q + 1) x ++ rest) (q + 1) = x := by rw [atE_app_left (by rw [insAt_len, HPL.out]; omega), insAt_here (by rw [HPL.out]; omega)]
          obtain ⟨c0, c1, c2⟩ := OE.cells ho (j := q) (by rw [hml]; omega)
          obtain ⟨d0, d1, d2⟩ := OE.cells ho (j := q + 1) (by rw [hml]; omega)
          rw [a1] at c0 c1 c2
          rw [a2] at d0 d1 d2
          obtain ⟨y, hy⟩ : ∃ y, atE p q = y := ⟨_, rfl⟩
          rw [hy] at c0 c1 c2
          have hq0 : (0 : Int) ≤ (q : Int) := by omega
          have hq1 : (q : Int) < (n : Int) := by omega
          have hq2 : (q : Int) + 1 < (n : Int) := by omega
          have HC := Lib.hid (And.intro c0 (And.intro c1 (And.intro c2 (And.intro d0 (And.intro d1 d2)))))
          have g0 := cell_regrown c0; have g1 := cell_regrown c1; have g2 := cell_regrown c2
          have k0 := cell_regrown d0; have k1 := cell_regrown d1; have k2 := cell_regrown d2
          obtain ⟨b, hb⟩ : ∃ b, ltE x y = b := ⟨_, rfl⟩
          have HB := Lib.hid hb
          have HE : ∀ d os, Calls Try.prog 102 #[.agg #[.int .i64 (x).rid, .int .i64 (x).due, .slice (x).A (x).n (x).c], .agg #[.int .i64 (y).rid, .int .i64 (y).due, .slice (y).A (y).n (y).c]] (grow (redrawn wr d) os) fun e w'' => e = .returned (.int .i64 (cmpI x.due y.due)) ∧ ∃ p : Regrown, w'' = grow (redrawn wr p.d) p.os :=
            fun d os => Calls.regrown_of (C_Late1 x y _)
          have hcl : decide (cmpI x.due y.due < 0) = b := by rw [cmpI_lt]; exact hb
          have HML := Lib.hid hml
          have HY := Lib.hid hy
          have HPOS := Lib.hid hpos
          clear c0 c1 c2 d0 d1 d2 ho hg hml a1 a2 hb hy hpos
          go_wp2
          (refine wp_region_quiet_below (by kernel_rfl) (by kernel_rfl) ?_; (repeat (go_big_quiet_step (exact HE _ _))); refine wpQuiet_nil ?_; intro _ hw'; obtain ⟨⟨dq, osq⟩, hw''⟩ := hw'; subst hw'')
          clear g0 g1 g2 k0 k1 k2 HE
          cases b
          · have HP := Lib.hid (show posE ltE p x k = q + 1 from HPOS.out.trans (posE_no (by rw [HY.out]; exact HB.out)))
            go_wp2
            go_roundw
            case rel => exact ⟨k + 1, by omega, by go_num, by omega, by rw [HNEXT.out.1, HNEXT.out.2, HP.out]; exact HO.out.below (below_regrown _ _ _), grown_below HG.out (below_regrown _ _ _)⟩
            case measure => simp [intOf]; omega
          · have HP := Lib.hid (show posE ltE p x k = posE ltE p x q from HPOS.out.trans (posE_yes (by rw [HY.out]; exact HB.out)))
            obtain ⟨w5, hw5⟩ : ∃ w5, w5 = grow (redrawn wr dq) osq := ⟨_, rfl⟩
            have O5 := Lib.hid (show OE base w5 (.slice (some ⟨g, 0, none⟩) n cap) (insAt p (q + 1) x ++ rest) by rw [hw5]; exact HO.out.below (below_regrown _ _ _))
            have G5 := Lib.hid (show w.grownBy w5 (some g) by rw [hw5]; exact grown_below HG.out (below_regrown _ _ _))
            rw [← hw5]
            have hkp : q < p.length := by rw [HPL.out]; omega
            have S := swap_ins (rest := rest) (x := x) hkp
            have a1 : atE (insAt p (q + 1) x ++ rest) q = y := by rw [atE_app_left (by rw [insAt_len, HPL.out]; omega), insAt_before (by omega) (by omega)]; exact HY.out
            have a2 : atE (insAt p (q + 1) x ++ rest) (q + 1) = x := by rw [atE_app_left (by rw [insAt_len, HPL.out]; omega), insAt_here (by omega)]
            rw [a1, a2] at S
            obtain ⟨c0, c1, c2⟩ := OE.cells O5.out (j := q) (by rw [HML.out]; omega)
            obtain ⟨d0, d1, d2⟩ := OE.cells O5.out (j := q + 1) (by rw [HML.out]; omega)
            rw [a1] at c0 c1 c2
            rw [a2] at d0 d1 d2
            have fz := OE.frozen O5.out
            have f0 := fz (q * 3); have f1 := fz (q * 3 + 1); have f2 := fz (q * 3 + 2)
            have e0 := fz ((q + 1) * 3); have e1 := fz ((q + 1) * 3 + 1); have e2 := fz ((q + 1) * 3 + 2)
            have hset : ∀ W, OE base W (.slice (some ⟨g, 0, none⟩) n cap) (insAt p (q + 1) x ++ rest) → OE base ((((((W.setCell ⟨g, (q + 1) * 3, none⟩ (.int .i64 y.rid)).setCell ⟨g, (q + 1) * 3 + 1, none⟩ (.int .i64 y.due)).setCell ⟨g, (q + 1) * 3 + 2, none⟩ (.slice y.A y.n y.c)).setCell ⟨g, q * 3, none⟩ (.int .i64 x.rid)).setCell ⟨g, q * 3 + 1, none⟩ (.int .i64 x.due)).setCell ⟨g, q * 3 + 2, none⟩ (.slice x.A x.n x.c)) (.slice (some ⟨g, 0, none⟩) n cap) (insAt p q x ++ rest) := fun W hW => by
              have hl := HML.out
              rw [← hl] at hW
              have h1 := OE.set hW (j := q + 1) (by omega) y
              have hl2 : (insAt p (q + 1) x ++ rest).length = ((insAt p (q + 1) x ++ rest).set (q + 1) y).length := by rw [List.length_set]
              rw [hl2] at h1
              have h2 := OE.set h1 (j := q) (by rw [← hl2]; omega) x
              rw [S, ← hl2, hl] at h2
              exact h2
            have HSET := Lib.hid hset
            clear S a1 a2 hw5 fz hkp hcl hset
            go_wp2
            go_region
            all_goals
              go_wp2
              go_roundw
              case rel => exact ⟨q, rfl, by omega, OE.drew (HSET.out w5 O5.out), HP.out, by (repeat (first | with_reducible exact World.grownBy.refl _ _ | with_reducible refine only_drewN ?_ _ | with_reducible refine only_drew ?_ | with_reducible refine only_alloc ?_ _ | with_reducible refine only_setCell ?_ (by first | exact Or.inl rfl | (refine Or.inr ?_; simp; done) | (refine Or.inr ?_; omega)) _)); exact G5.out⟩
              case measure => simp [intOf]
    · have hal : srtE ltE (l.take k) ++ l.drop k = srtE ltE l := by
        rw [List.take_of_length_le (by rw [HLN.out]; omega), List.drop_eq_nil_of_le (by rw [HLN.out]; omega), List.append_nil]
      rw [hal] at ho
      have HO := Lib.hid ho
      have HG := Lib.hid hg
      clear ho hal hg
      go_wp2
      go_end0
      exact ⟨rfl, HO.out, HG.out⟩
end Go.Proofs.Ytcdffikambbleaa

/- LateReviews: the program. No condition but those stated. -/
namespace Go.Proofs.Ytcdffikambbleaa
set_option linter.unusedVariables false
set_option linter.unusedSimpArgs false
open Go.RowKit Go.Sort
theorem grown_some {w w' : World} (h : w = w') (row : Option Nat) : w.grownBy w' row := by subst h; exact World.grownBy.refl _ _
theorem C_insSort0 (A : Option Addr) (cap : Nat) (w : World) :
    Calls Try.prog 119 #[.slice A 0 cap, .int .i64 0, .int .i64 0, .func (.func 102) #[] #[]] w fun e w' => e = .returned (.tuple #[]) ∧ w = w' := by
  go_enter Try.func119, Try.ntmps119
  go_wp2
  refine wp_loop_rounds 1 ?_
  rw [rounds_succ]
  go_wp2
  go_end0
  exact ⟨rfl, rfl⟩
theorem C_stable (base : Nat) (v : Value) (l : List El) (w : World) (h : OE base w v l) (hn : l.length ≤ 19) :
    Calls Try.prog 115 #[v, .int .i64 l.length, .func (.func 102) #[] #[]] w fun e w' => e = .returned (.tuple #[]) ∧ OE base w' v (srtE ltE l) ∧ w.grownBy w' v.ownBlock := by
  have key : Calls Try.prog 119 #[v, .int .i64 0, .int .i64 l.length, .func (.func 102) #[] #[]] w fun e w' => e = .returned (.tuple #[]) ∧ OE base w' v (srtE ltE l) ∧ w.grownBy w' v.ownBlock := by
    obtain ⟨A, cap, rfl, hc, hm, hA⟩ := own3.form h
    rcases Nat.eq_zero_or_pos l.length with h0 | h0
    · obtain rfl : l = [] := List.eq_nil_of_length_eq_zero h0
      refine (C_insSort0 A cap w).mono ?_
      rintro e w' ⟨rfl, rfl⟩
      exact ⟨rfl, h, World.grownBy.refl _ _⟩
    · obtain ⟨g, rfl, _, _⟩ := hA h0
      exact C_insSort base g cap l w h (by omega)
  obtain ⟨n, hln⟩ : ∃ n, l.length = n := ⟨_, rfl⟩
  obtain ⟨A, cap, rfl, hc, hm, hA⟩ := own3.form h
  obtain ⟨s, hs⟩ : ∃ s, srtE ltE l = s := ⟨_, rfl⟩
  rw [hs] at key ⊢
  rw [hln] at key hn ⊢
  have K := Lib.hid key
  clear key h hA hln hs
  have h1 : ¬ (20 : Int) ≤ (n : Int) := by omega
  have h2 : ¬ (20 : Int) < (n : Int) := by omega
  go_enter Try.func115, Try.ntmps115
  go_wp2
  refine wp_loop_rounds 1 ?_
  rw [rounds_succ]
  go_wp2_with fail
  refine K.out.mono ?_; rintro e w1 ⟨rfl, ho, hg⟩
  have HO := Lib.hid (And.intro ho hg)
  clear ho hg
  go_wp2
  refine wp_loop_rounds 1 ?_
  rw [rounds_succ]
  go_wp2
  go_end0
  exact ⟨rfl, HO.out⟩
theorem C_SortStable (base : Nat) (v : Value) (l : List El) (w : World) (h : OE base w v l) (hn : l.length ≤ 19) :
    Calls Try.prog 101 #[v, .func (.func 102) #[] #[]] w fun e w' => e = .returned (.tuple #[]) ∧ OE base w' v (srtE ltE l) ∧ w.grownBy w' v.ownBlock := by
  have K := Lib.hid (C_stable base v l w h hn)
  obtain ⟨A, cap, rfl, hc, hm, hA⟩ := own3.form h
  clear h hA
  go_enter Try.func101, Try.ntmps101
  go_wp2_with fail
  refine K.out.mono ?_; rintro e w1 ⟨rfl, ho, hg⟩
  have HO := Lib.hid (And.intro ho hg)
  clear ho hg
  go_wp2
  go_end0
  exact ⟨rfl, HO.out⟩
end Go.Proofs.Ytcdffikambbleaa

/- LateReviews: the program. No condition but those stated. -/
namespace Go.Proofs.Ytcdffikambbleaa
set_option linter.unusedVariables false
set_option linter.unusedSimpArgs false
open Go.RowKit Go.Sort
theorem lst_succ (n : Nat) (f : Nat → Int) : lst (n + 1) f = lst n f ++ [f n] := by unfold lst; rw [List.range_succ, List.map_append]; rfl
theorem lst_atE (l : List El) (f : El → Int) : lst l.length (fun q => f (atE l q)) = l.map f := by
  unfold lst
  apply List.ext_getElem
  · simp
  · intro j h1 h2
    rw [List.getElem_map, List.getElem_range, List.getElem_map, atE_get (by simpa using h2)]
theorem posE_map {α β : Type} [Inhabited α] [Inhabited β] (f : α → β) (lt : α → α → Bool) (lt' : β → β → Bool) (h : ∀ x y, lt x y = lt' (f x) (f y)) (l : List α) (x : α) : ∀ k, k ≤ l.length → posE lt l x k = posE lt' (l.map f) (f x) k := by
  intro k
  induction k with
  | zero => intro _; rfl
  | succ k ih =>
    intro hk
    have e : atE (l.map f) k = f (atE l k) := by rw [atE_get (by simp; omega), atE_get (by omega), List.getElem_map]
    rw [posE, posE, h, e, ih (by omega)]
theorem srtE_map {α β : Type} [Inhabited α] [Inhabited β] (f : α → β) (lt : α → α → Bool) (lt' : β → β → Bool) (h : ∀ x y, lt x y = lt' (f x) (f y)) (l : List α) : (srtE lt l).map f = srtE lt' (l.map f) := by
  have key : ∀ (l s : List α), (l.foldl (insE lt) s).map f = (l.map f).foldl (insE lt') (s.map f) := by
    intro l
    induction l with
    | nil => intro s; rfl
    | cons x l ih =>
      intro s
      rw [List.foldl_cons, ih, List.map_cons, List.foldl_cons]
      congr 1
      unfold insE insAt
      rw [posE_map f lt lt' h s x _ (Nat.le_refl _), List.map_append, List.map_cons, List.map_take, List.map_drop, List.length_map]
  exact key l []
instance : Inhabited (Int × Int) := ⟨(0, 0)⟩
def ltP (x y : Int × Int) : Bool := decide (x.2 < y.2)
def El.pr (x : El) : Int × Int := (x.rid, x.due)
def lateB (x : Rv) (day : Int) : Bool := decide (x.due < day) && decide ((x.n : Int) < 3)
def lateP (R : Nat → Rv) (day : Int) : Nat → List (Int × Int)
  | 0 => []
  | k + 1 => lateP R day k ++ (if lateB (R k) day then [((R k).rid, (R k).due)] else [])
theorem lateP_le (R : Nat → Rv) (day : Int) (k : Nat) : (lateP R day k).length ≤ k := by
  induction k with
  | zero => exact Nat.le_refl _
  | succ k ih => simp only [lateP, List.length_append]; split <;> simp <;> omega
def lateOk (n : Nat) (R : Nat → Rv) (day : Int) : Bool := okRs n R && within day 0 20000
def late (n : Nat) (R : Nat → Rv) (day : Int) : List Int := if lateOk n R day then (srtE ltP (lateP R day n)).map (·.1) else []
theorem verdict_zero (n : Nat) (f : Nat → Int) : (verdict n f == 0) = decide ((n : Int) < 3) := by
  unfold verdict
  by_cases h : (n : Int) < 3
  · simp [h]
  · rw [if_neg h, decide_eq_false h]
    split
    · rfl
    · split <;> rfl
theorem OE.app {base : Nat} {w' : World} {v' : Value} {l : List El} {x : El} (h : own3 base w' v' (l.length + 1) (fun i => if i < l.length * 3 then cE (atE l (i / 3)) (i % 3) else cE x (i - l.length * 3))) : OE base w' v' (l ++ [x]) := by
  unfold OE
  rw [List.length_append, List.length_singleton]
  refine h.congr fun i hi => ?_
  by_cases e : i < l.length * 3
  · rw [if_pos e, atE_app_left (by omega)]
  · rw [if_neg e, atE_app_right (by omega), show i / 3 - l.length = 0 by omega, show i - l.length * 3 = i % 3 by omega]; rfl
theorem cE_one (x : El) (m : Nat) : (cE x m).oneCell' = true := by unfold cE; split <;> (try split) <;> rfl
theorem readsE {w : World} {B : Nat} {x : El} (h0 : w.cell? ⟨B, 0, none⟩ = some (.int .i64 x.rid)) (h1 : w.cell? ⟨B, 1, none⟩ = some (.int .i64 x.due)) (h2 : w.cell? ⟨B, 2, none⟩ = some (.slice x.A x.n x.c)) (hl : B < w.heap.size) :
    Reads w w.heap.size 3 (some ⟨B, 0, none⟩) 1 ((List.range (1 * 3)).map fun i => cE x i) :=
  reads3 (x := ⟨x.rid, x.due, 0, fun _ => 0⟩) (sv := .slice x.A x.n x.c) h0 h1 h2 hl
set_option maxRecDepth 100000 in
set_option maxHeartbeats 4000000 in
theorem C_LateReviewsI (v : Value) (n : Nat) (R : Nat → Rv) (day : Int) (w : World) (h : RRs w v n R) :
    Calls Try.prog 59 #[v, .int .i64 day] w fun e w' => ∃ v', e = .returned (.tuple #[v', .bool (lateOk n R day)]) ∧ OI w.heap.size w' v' (late n R day) ∧ Below w.heap.size w w' := by
  have hv := h
  obtain ⟨A, cap, rfl, hr, hc, hm⟩ := h
  have HV := Lib.hid hv; clear hv
  have HR := Lib.hid hr; clear hr
  cases hok : okRs n R
  · have hl : lateOk n R day = false := by unfold lateOk; rw [hok]; rfl
    have hl2 : late n R day = [] := by unfold late; rw [hl]; rfl
    rw [hl, hl2]
    go_enter Try.func59, Try.ntmps59
    go_wp2_with (go_at_call 24; refine (C_AreReviewsI _ _ _ _ HV.out).mono ?_; rintro e w1 ⟨rfl, hb1⟩; simp only [hok])
    go_ret2
    exact ⟨_, rfl, OI.nil _ _, hb1⟩
  cases hd : within day 0 20000
  · have hl : lateOk n R day = false := by unfold lateOk; rw [hok, hd]; rfl
    have hl2 : late n R day = [] := by unfold late; rw [hl]; rfl
    rw [hl, hl2]
    go_enter Try.func59, Try.ntmps59
    go_wp2_with (first | (go_at_call 24; refine (C_AreReviewsI _ _ _ _ HV.out).mono ?_; rintro e w1 ⟨rfl, hb1⟩; simp only [hok]) | (go_at_call 73; refine (C_isDay _ _).mono ?_; rintro e w2 ⟨rfl, rfl⟩; simp only [hd]))
    go_ret2
    exact ⟨_, rfl, OI.nil _ _, hb1⟩
  have hl : lateOk n R day = true := by unfold lateOk; rw [hok, hd]; rfl
  have hl2 : late n R day = (srtE ltP (lateP R day n)).map (·.1) := by unfold late; rw [hl]; rfl
  rw [hl, hl2]
  have hn10 := okRs_le hok
  clear hl hl2
  go_enter Try.func59, Try.ntmps59
  go_wp2_with (first | (go_at_call 24; refine (C_AreReviewsI _ _ _ _ HV.out).mono ?_; rintro e w1 ⟨rfl, hb1⟩; simp only [hok]) | (go_at_call 73; refine (C_isDay _ _).mono ?_; rintro e w2 ⟨rfl, rfl⟩; simp only [hd]))
  have HB1 := Lib.hid hb1
  clear hb1 hok hd
  go_loopw [6, 22] (fun o i wr => ∃ (k : Nat) (l : List El), k ≤ n ∧ i = .int .i64 k ∧ OE w.heap.size wr o l ∧ l.map El.pr = lateP R day k ∧ Below w.heap.size w wr) (fun _ i _ => n - (intOf i).toNat)
  case atStart => exact ⟨0, [], Nat.zero_le _, rfl, OE.nil _ _, rfl, HB1.out⟩
  case round =>
    clear HB1
    obtain ⟨k, l, hk, rfl, ho, hlp, hB⟩ := hrel
    have hll : l.length ≤ k := by rw [← List.length_map (f := El.pr), hlp]; exact lateP_le R day k
    by_cases hlt : k < n
    · obtain ⟨b, off, rfl, hb, hcell⟩ := RRs.at_ hB HR.out (by omega)
      obtain ⟨sv, hsv, hck0, hck1, hck2⟩ := hcell k hlt; have hsv0 := hsv; obtain ⟨A1, c1, rfl, hsr1, hsc1, hsm1⟩ := hsv0; clear hsr1
      have hk0 : (0 : Int) ≤ (k : Int) := by omega
      have hk1 : (k : Int) < (n : Int) := by omega
      have HSV := Lib.hid hsv
      have HB := Lib.hid hB
      have HO := Lib.hid ho
      have hzs := hB.size
      obtain ⟨z, hz⟩ : ∃ z, verdict (R k).n (R k).f = z := ⟨_, rfl⟩
      have hzz := verdict_zero (R k).n (R k).f
      rw [hz] at hzz
      have hstep : lateP R day (k + 1) = lateP R day k ++ (if lateB (R k) day then [((R k).rid, (R k).due)] else []) := rfl
      have HZ := Lib.hid hz
      clear hcell hsv hB ho hz
      have e0 : lateB (R k) day = (decide ((R k).due < day) && (z == 0)) := by rw [hzz]; rfl
      rw [e0] at hstep
      clear e0 hzz
      by_cases hdue : (R k).due < day
      · cases hzb : (z == 0)
        · have HST := Lib.hid (show lateP R day (k + 1) = lateP R day k by rw [hstep, hzb]; simp)
          clear hstep
          go_wp2_with (go_at_call 79; refine (C_verdictFor _ _ _ _ (HSV.out.below (by (repeat (first | with_reducible exact Below.refl _ _ | with_reducible exact below_regrown _ _ _ | with_reducible refine bel_step0 (by assumption) ?_ | with_reducible refine bel_alloc0 ?_ _ | with_reducible refine bel_regrown0 ?_ _ _ | with_reducible refine bel_regrown ?_ (by first | omega | (simp; done) | (simp; omega)) _ _ | with_reducible refine below_drewN ?_ _ | with_reducible refine Below.drew ?_ | with_reducible refine Below.alloc ?_ (by first | omega | (simp; done) | (simp; omega)) _ | with_reducible refine Below.setCell ?_ (by first | omega | (simp; done) | (simp; omega)) _ | with_reducible refine bel_step (by assumption) (by first | omega | (simp; done) | (simp; omega)) ?_ | with_reducible refine bel_grown (by assumption) (by first | omega | (simp; done) | (simp; omega)) (by first | omega | (simp; done) | (simp; omega)) ?_))))).mono ?_; rintro e w2 ⟨rfl, rfl⟩; rw [HZ.out])
          go_roundw
          case rel => exact ⟨k + 1, l, by omega, by go_num, HO.out.alloc _, by rw [HST.out]; exact hlp, bel_alloc0 HB.out _⟩
          case measure => simp [intOf]; omega
        · have HST := Lib.hid (show lateP R day (k + 1) = lateP R day k ++ [((R k).rid, (R k).due)] by rw [hstep, hzb]; simp [hdue])
          have HLP := Lib.hid hlp
          clear hstep hlp
          have HOD := Lib.hid ((HO.out.alloc (.cells #[.int .i64 (R k).rid, .int .i64 (R k).due, .slice A1 (R k).n c1] 27)).alloc (.cells #[.int .i64 (R k).rid, .int .i64 (R k).due, .slice A1 (R k).n c1] 27))
          have hRD : Reads ((wr.alloc (.cells #[.int .i64 (R k).rid, .int .i64 (R k).due, .slice A1 (R k).n c1] 27)).alloc (.cells #[.int .i64 (R k).rid, .int .i64 (R k).due, .slice A1 (R k).n c1] 27)) _ 3 (some ⟨wr.heap.size + 1, 0, none⟩) 1 _ := readsE (x := ⟨(R k).rid, (R k).due, A1, (R k).n, c1⟩) (cell_new' (by simp) rfl) (cell_new' (by simp) rfl) (cell_new' (by simp) rfl) (by simp)
          have HRD := Lib.hid hRD
          clear hRD
          go_wp2_with (first | (go_at_call 79; refine (C_verdictFor _ _ _ _ (HSV.out.below (by (repeat (first | with_reducible exact Below.refl _ _ | with_reducible exact below_regrown _ _ _ | with_reducible refine bel_step0 (by assumption) ?_ | with_reducible refine bel_alloc0 ?_ _ | with_reducible refine bel_regrown0 ?_ _ _ | with_reducible refine bel_regrown ?_ (by first | omega | (simp; done) | (simp; omega)) _ _ | with_reducible refine below_drewN ?_ _ | with_reducible refine Below.drew ?_ | with_reducible refine Below.alloc ?_ (by first | omega | (simp; done) | (simp; omega)) _ | with_reducible refine Below.setCell ?_ (by first | omega | (simp; done) | (simp; omega)) _ | with_reducible refine bel_step (by assumption) (by first | omega | (simp; done) | (simp; omega)) ?_ | with_reducible refine bel_grown (by assumption) (by first | omega | (simp; done) | (simp; omega)) (by first | omega | (simp; done) | (simp; omega)) ?_))))).mono ?_; rintro e w2 ⟨rfl, rfl⟩; rw [HZ.out]) | (at_builtin; refine wp_app3 _ rfl (.tmp 36) (.tmp 38) rfl w.heap.size _ l.length _ rfl HOD.out (some ⟨wr.heap.size + 1, 0, none⟩) 1 1 (fun i => cE ⟨(R k).rid, (R k).due, A1, (R k).n, c1⟩ i) rfl HRD.out (fun i hi => cE_one _ _) (by omega) (by simp; omega) ?_; intro v3 w3 ho3 hb3 hg3; have O3 := Lib.hid (OE.app ho3); have B3 := Lib.hid (Below.trans (bel_alloc0 (bel_alloc0 HB.out _) _) hb3); clear ho3 hb3 hg3))
          go_roundw
          case rel => exact ⟨k + 1, _, by omega, by go_num, O3.out, by rw [HST.out, List.map_append, HLP.out]; rfl, B3.out⟩
          case measure => simp [intOf]; omega
      · have HST := Lib.hid (show lateP R day (k + 1) = lateP R day k by rw [hstep]; simp [hdue])
        clear hstep
        go_wp2
        go_roundw
        case rel => exact ⟨k + 1, l, by omega, by go_num, HO.out.alloc _, by rw [HST.out]; exact hlp, bel_alloc0 HB.out _⟩
        case measure => simp [intOf]; omega
    · obtain rfl : k = n := by omega
      have HB := Lib.hid hB
      have HO := Lib.hid ho
      obtain ⟨s, hs⟩ : ∃ s, srtE ltE l = s := ⟨_, rfl⟩
      have hsl : s.length = l.length := by rw [← hs]; exact srtE_len _ _
      have hsm : s.map El.pr = srtE ltP (lateP R day k) := by rw [← hs, srtE_map El.pr ltE ltP (fun x y => rfl), hlp]
      have K := Lib.hid (C_SortStable w.heap.size _ l wr ho (by omega))
      rw [hs] at K
      obtain ⟨m, hml⟩ : ∃ m, l.length = m := ⟨_, rfl⟩
      obtain ⟨VA, vc, rfl, hvc, hvm, hVA⟩ := own3.form ho
      have hlt9 := own3.lt ho
      rw [hml] at hvc K hVA hsl hll HO hlt9 ⊢
      have HSM := Lib.hid hsm
      have HSL := Lib.hid hsl
      have HL9 := Lib.hid hlt9
      clear hB ho hs hsm hlp hml hlt hVA hsl hlt9
      go_wp2_with fail
      refine K.out.mono ?_; rintro e w5 ⟨rfl, ho5, hg5⟩
      have O5 := Lib.hid ho5
      have B5 := Lib.hid (HB.out.grown hg5 HB.out.size (fun q hq => (HL9.out q hq).1))
      clear ho5 hg5 K HO HL9
      go_wp2
      go_loopw [9, 45] (fun o i wi => ∃ j : Nat, j ≤ m ∧ i = .int .i64 j ∧ OI w5.heap.size wi o (lst j fun q => (atE s q).rid) ∧ Below w5.heap.size w5 wi) (fun _ i _ => m - (intOf i).toNat)
      case atStart => exact ⟨0, Nat.zero_le _, rfl, OI.nil _ _, Below.refl _ _⟩
      case round =>
        obtain ⟨j, hj, rfl, ho, hb⟩ := hrel
        have HOI := Lib.hid ho
        have HB6 := Lib.hid hb
        by_cases hlt : j < m
        · have ho6 := O5.out.below hb
          obtain ⟨A', c', e', _, _, hA'⟩ := own3.form ho6
          injection e' with e1 e2 e3
          have hsl := HSL.out
          obtain ⟨g, rfl, _, hgl⟩ := hA' (by rw [hsl]; omega)
          subst e1
          obtain ⟨c0, c1, c2⟩ := OE.cells ho6 (j := j) (by rw [hsl]; omega)
          obtain ⟨x, hx⟩ : ∃ x, atE s j = x := ⟨_, rfl⟩
          rw [hx] at c0 c1 c2
          have HX := Lib.hid hx
          have hj0 : (0 : Int) ≤ (j : Int) := by omega
          have hj1 : (j : Int) < (m : Int) := by omega
          have hz5 := hb.size
          have hz6 := B5.out.size
          have hjl : (lst j fun q => (atE s q).rid).length ≤ 1099511627776 := by rw [lst_length]; omega
          clear ho hb ho6 hA' hsl hx e2 e3
          have HOA := Lib.hid ((HOI.out.alloc (.cells #[.int .i64 x.rid, .int .i64 x.due, .slice x.A x.n x.c] 27)).alloc (.cells #[.int .i64 x.rid] 3))
          go_wp2_with (at_builtin; refine wp_app1 _ rfl (.tmp 49) (.tmp 52) rfl w5.heap.size _ _ rfl HOA.out (wr.heap.size + 1) x.rid rfl (by simp) hjl (by simp; omega) ?_; intro v7 w7 ho7 hb7; have O7 := Lib.hid ho7; have B7 := Lib.hid (Below.trans (bel_alloc0 (bel_alloc0 HB6.out _) _) hb7); clear ho7 hb7)
          go_roundw
          case rel => exact ⟨j + 1, by omega, by go_num, by rw [lst_succ, HX.out]; exact O7.out, B7.out⟩
          case measure => simp [intOf]; omega
        · obtain rfl : j = m := by omega
          clear ho hb
          go_wp2
          go_ret2
          refine ⟨_, rfl, ?_, bel_step0 HB6.out B5.out⟩
          have e : lst j (fun q => (atE s q).rid) = (srtE ltP (lateP R day k)).map (·.1) := by
            have h1 := lst_atE s El.rid
            rw [HSL.out] at h1
            rw [← HSM.out, List.map_map]
            exact h1
          rw [← e]
          exact HOI.out.mono B5.out.size
end Go.Proofs.Ytcdffikambbleaa

/- Appending runs of reviews in regions that draw their order. No condition but those stated. -/
namespace Go.Proofs.Ytcdffikambbleaa
set_option linter.unusedVariables false
set_option linter.unusedSimpArgs false
open Go.RowKit Go.Sort
/-- The slice whose head is A reads as the reviews l. -/
def RE (w : World) (A : Option Addr) (l : List El) : Prop :=
  0 < l.length → ∃ b off, A = some ⟨b, off, none⟩ ∧ b < w.heap.size ∧ ∀ i, i < l.length * 3 → w.cell? ⟨b, off + i, none⟩ = some (cE (atE l (i / 3)) (i % 3))
theorem RE.nil (w : World) (A : Option Addr) : RE w A [] := fun h => absurd h (by simp)
theorem RE.below {w w' : World} {A : Option Addr} {l : List El} (h : RE w A l) (hb : Below w.heap.size w w') : RE w' A l := fun h0 => by
  obtain ⟨b, off, e, hl, hc⟩ := h h0
  exact ⟨b, off, e, Nat.lt_of_lt_of_le hl hb.size, fun i hi => (hb.cell (p := ⟨b, off + i, none⟩) hl).trans (hc i hi)⟩
theorem RE.take {w : World} {A : Option Addr} {l : List El} (h : RE w A l) (k : Nat) : RE w A (l.take k) := fun h0 => by
  have h1 : (l.take k).length ≤ l.length := by rw [List.length_take]; omega
  obtain ⟨b, off, e, hl, hc⟩ := h (by omega)
  refine ⟨b, off, e, hl, fun i hi => ?_⟩
  rw [hc i (by omega)]
  have e2 : atE (l.take k) (i / 3) = atE l (i / 3) := by
    rw [List.length_take] at hi
    unfold atE
    rw [List.getD_eq_getElem?_getD, List.getD_eq_getElem?_getD, List.getElem?_take_of_lt (by omega)]
  rw [e2]
theorem RE.drop {w : World} {b off : Nat} {l : List El} (h : RE w (some ⟨b, off, none⟩) l) (k : Nat) : RE w (some ⟨b, off + k * 3, none⟩) (l.drop k) := fun h0 => by
  rw [List.length_drop] at h0
  obtain ⟨b', off', e, hl, hc⟩ := h (by omega)
  injection e with e
  injection e with e1 e2 _
  subst e1 e2
  refine ⟨b, off + k * 3, rfl, hl, fun i hi => ?_⟩
  rw [List.length_drop] at hi
  rw [Nat.add_assoc, hc (k * 3 + i) (by omega), show (k * 3 + i) / 3 = k + i / 3 by omega, show (k * 3 + i) % 3 = i % 3 by omega]
  have e2 : atE (l.drop k) (i / 3) = atE l (k + i / 3) := by
    unfold atE
    rw [List.getD_eq_getElem?_getD, List.getD_eq_getElem?_getD, List.getElem?_drop]
  rw [e2]
theorem RE.one {w : World} {B : Nat} {x : El} (hl : B < w.heap.size) (h0 : w.cell? ⟨B, 0, none⟩ = some (.int .i64 x.rid)) (h1 : w.cell? ⟨B, 1, none⟩ = some (.int .i64 x.due)) (h2 : w.cell? ⟨B, 2, none⟩ = some (.slice x.A x.n x.c)) : RE w (some ⟨B, 0, none⟩) [x] := fun _ =>
  ⟨B, 0, rfl, hl, fun i hi => by
    rw [Nat.zero_add]
    match i, hi with
    | 0, _ => exact h0
    | 1, _ => exact h1
    | 2, _ => exact h2
    | i + 3, h => simp at h; omega⟩
theorem RE.reads {w : World} {A : Option Addr} {l : List El} (h : RE w A l) : Reads w w.heap.size 3 A l.length ((List.range (l.length * 3)).map fun i => cE (atE l (i / 3)) (i % 3)) := by
  refine ⟨by simp, fun h0 => ?_⟩
  obtain ⟨b, off, e, hl, hc⟩ := h h0
  refine ⟨_, e, hl, fun i u hu => ?_⟩
  have hi : i < l.length * 3 := by have := (List.getElem?_eq_some_iff.1 hu).1; simpa using this
  rw [List.getElem?_map, List.getElem?_range hi] at hu
  simp only [Option.map_some, Option.some.injEq] at hu
  subst hu
  have ea : (Addr.add ⟨b, off, none⟩ i) = ⟨b, off + i, none⟩ := by
    unfold Addr.add
    by_cases e : i = 0
    · subst e; rfl
    · rw [if_neg e]
  rw [ea]; exact hc i hi
theorem OE.re {base : Nat} {w : World} {A : Option Addr} {n cap : Nat} {l : List El} (h : OE base w (.slice A n cap) l) : RE w A l := fun h0 => by
  obtain ⟨A', c', e, _, _, hA⟩ := own3.form h
  injection e with e1 e2 e3
  obtain ⟨g, rfl, _, hl⟩ := hA h0
  subst e1 e2 e3
  exact ⟨g, 0, rfl, hl, fun i hi => by rw [Nat.zero_add]; exact own3.cell h hi⟩
/-- Appending a run of reviews at a step of a region that draws its order. -/
theorem step_appE (w : World) {ops : Array Oper} {o : Oper} {a : Act} {K : Act → World → Prop} {Q : Exit → Act → World → Prop} {E : Prop} (hgd : o.guard = none) (s x : Operand)
    (ho : o.op = .call { callee := .builtin .append, args := #[s, x], argTypes := #[34, 34] })
    (wb : World) (v : Value) (l r : List El) (hs : a.eval s = v) (hown : OE wb.heap.size w v l) (hb : Below wb.heap.size wb w) (A : Option Addr) (m c : Nat) (hm : r.length = m) (hx : a.eval x = .slice A m c) (hr : RE w A r)
    (hlen : l.length + m ≤ 1099511627776)
    (h : ∀ v' w', OE wb.heap.size w' v' (l ++ r) → Below wb.heap.size wb w' → (∀ q, q < w.heap.size → v.ownBlock ≠ some q → w'.heap[q]? = w.heap[q]?) → w.heap.size ≤ w'.heap.size → K (a.put o.dst v') w') : if Region.wanted o (yielded ops a.tmps) = true then Oper.wp Try.prog o a w K Q else E := by
  subst hm
  obtain ⟨i0, hi, hz0, hz1, hz2⟩ := info_parts info_rev
  have hbase := hb.size
  obtain ⟨xs, ho1, ho2⟩ := hown
  refine step_append_any w hgd s x 34 ho wb.heap.size 27 i0 _ 3 40 Try.underlying34 hi hz0 hz1 hz2 rfl (by omega) v l.length xs hs ho1 w.heap.size A r.length c _ hx hr.reads
    (fun u hu => ?_) (by unfold maxLen; omega) (by omega) hbase (fun v' w' h1 h2 _ => h v' w' ?_ ?_ (fun q hq hn => h2.block q hq (fun e => hn e.symm)) h2.size)
  · obtain ⟨i, hi, rfl⟩ := List.mem_map.1 hu
    exact cE_one _ _
  · refine ⟨_, by rw [List.length_append]; exact h1, fun i hi => ?_⟩
    have hl := ho1.1
    rw [List.length_append] at hi
    by_cases e : i < l.length * 3
    · rw [List.getElem?_append_left (by omega), ho2 i e]
      show _ = some (cE (atE (l ++ r) (i / 3)) (i % 3))
      rw [atE_app_left (by omega)]
    · rw [List.getElem?_append_right (by omega), hl, List.getElem?_map, List.getElem?_range (by omega)]
      show some (cE (atE r ((i - l.length * 3) / 3)) ((i - l.length * 3) % 3)) = some (cE (atE (l ++ r) (i / 3)) (i % 3))
      rw [atE_app_right (by omega), show (i - l.length * 3) / 3 = i / 3 - l.length by omega, show (i - l.length * 3) % 3 = i % 3 by omega]
  · exact hb.trans ((Below.refl _ w).grown h2 hbase (fun k hk => (World.ownsRow.lt ho1 k hk).1))
theorem OE.emptyAt {base : Nat} {W : World} {g : Nat} (hg : g = W.heap.size) (hb : base ≤ g) : OE base (W.alloc (.cells #[] 27)) (.slice (some ⟨g, 0, none⟩) 0 0) [] := by
  subst hg; exact own3.empty hb _
theorem re_lit (W : World) (x : El) (T : TypeId) : RE (W.alloc (.cells #[.int .i64 x.rid, .int .i64 x.due, .slice x.A x.n x.c] T)) (some ⟨W.heap.size, 0, none⟩) [x] :=
  RE.one (by simp) (cell_new _ _ _ _ _ rfl) (cell_new _ _ _ _ _ rfl) (cell_new _ _ _ _ _ rfl)
theorem re_block {w w2 : World} {g : Nat} {x : El} (h : RE w (some ⟨g, 0, none⟩) [x]) (hg : w2.heap[g]? = w.heap[g]?) : RE w2 (some ⟨g, 0, none⟩) [x] := fun h0 => by
  obtain ⟨b, off, e, hl, hc⟩ := h h0
  injection e with e
  injection e with e1 e2 _
  subst e1 e2
  refine ⟨g, 0, rfl, ?_, fun i hi => (World.cell?_of_block (w := w) (a := ⟨g, 0 + i, none⟩) hg).trans (hc i hi)⟩
  rcases Nat.lt_or_ge g w2.heap.size with h | h
  · exact h
  · rw [Array.getElem?_eq_none h, Array.getElem?_eq_getElem hl] at hg; cases hg
theorem re_kept1 {w w2 : World} {T T' : TypeId} {x : El} (hq : ∀ q, q < ((w.alloc (.cells #[] T)).alloc (.cells #[.int .i64 x.rid, .int .i64 x.due, .slice x.A x.n x.c] T')).heap.size → (Value.slice (some ⟨w.heap.size, 0, none⟩) 0 0).ownBlock ≠ some q → w2.heap[q]? = ((w.alloc (.cells #[] T)).alloc (.cells #[.int .i64 x.rid, .int .i64 x.due, .slice x.A x.n x.c] T')).heap[q]?)
    : RE w2 (some ⟨w.heap.size + 1, 0, none⟩) [x] := by
  have h := re_lit (w.alloc (.cells #[] T)) x T'
  rw [World.size_alloc] at h
  exact re_block h (hq (w.heap.size + 1) (by simp) (by simp [Value.ownBlock]))
theorem re_kept0 {w w2 : World} {T T' : TypeId} {x : El} (hq : ∀ q, q < ((w.alloc (.cells #[.int .i64 x.rid, .int .i64 x.due, .slice x.A x.n x.c] T')).alloc (.cells #[] T)).heap.size → (Value.slice (some ⟨w.heap.size + 1, 0, none⟩) 0 0).ownBlock ≠ some q → w2.heap[q]? = ((w.alloc (.cells #[.int .i64 x.rid, .int .i64 x.due, .slice x.A x.n x.c] T')).alloc (.cells #[] T)).heap[q]?)
    : RE w2 (some ⟨w.heap.size, 0, none⟩) [x] := by
  have h := (re_lit w x T').below ((Below.refl _ _).alloc (Nat.le_refl _) (.cells #[] T))
  exact re_block h (hq w.heap.size (by simp) (by simp [Value.ownBlock]))
end Go.Proofs.Ytcdffikambbleaa

/- LateReviews: the reference. No condition but those stated. -/
namespace Go.Proofs.Ytcdffikambbleaa
set_option linter.unusedVariables false
set_option linter.unusedSimpArgs false
open Go.RowKit Go.Sort
theorem RE.of_nil {w : World} {A : Option Addr} {l : List El} (h : l = []) : RE w A l := by subst h; exact RE.nil w A
theorem OE.mono {base base' : Nat} {w : World} {v : Value} {l : List El} (hb : base' ≤ base) (h : OE base w v l) : OE base' w v l := own3.mono hb h
set_option maxRecDepth 100000 in
set_option maxHeartbeats 8000000 in
theorem C_LateReviewsS (v : Value) (n : Nat) (R : Nat → Rv) (day : Int) (w : World) (h : RRs w v n R) :
    Calls Try.prog 58 #[v, .int .i64 day] w fun e w' => ∃ v', e = .returned (.tuple #[v', .bool (lateOk n R day)]) ∧ OI w.heap.size w' v' (late n R day) ∧ Below w.heap.size w w' := by
  have hv := h
  obtain ⟨A, cap, rfl, hr, hc, hm⟩ := h
  have HV := Lib.hid hv; clear hv
  have HR := Lib.hid hr; clear hr
  cases hok : okRs n R
  · have hl : lateOk n R day = false := by unfold lateOk; rw [hok]; rfl
    have hl2 : late n R day = [] := by unfold late; rw [hl]; rfl
    rw [hl, hl2]
    go_enter Try.func58, Try.ntmps58
    go_wp2_with (go_at_call 77; refine (C_l23Good _ _ _ _ (HV.out.below (by (repeat (first | with_reducible exact Below.refl _ _ | with_reducible exact below_regrown _ _ _ | with_reducible refine bel_step0 (by assumption) ?_ | with_reducible refine bel_alloc0 ?_ _ | with_reducible refine bel_regrown0 ?_ _ _ | with_reducible refine bel_regrown ?_ (by first | omega | (simp; done) | (simp; omega)) _ _ | with_reducible refine below_drewN ?_ _ | with_reducible refine Below.drew ?_ | with_reducible refine Below.alloc ?_ (by first | omega | (simp; done) | (simp; omega)) _ | with_reducible refine Below.setCell ?_ (by first | omega | (simp; done) | (simp; omega)) _ | with_reducible refine bel_step (by assumption) (by first | omega | (simp; done) | (simp; omega)) ?_ | with_reducible refine bel_grown (by assumption) (by first | omega | (simp; done) | (simp; omega)) (by first | omega | (simp; done) | (simp; omega)) ?_))))).mono ?_; rintro e w1 ⟨rfl, hb1⟩; simp only [hok])
    go_ret2
    exact ⟨_, rfl, (OI.empty (Nat.le_refl _)).below hb1, by (repeat (first | with_reducible exact Below.refl _ _ | with_reducible exact below_regrown _ _ _ | with_reducible refine bel_step0 (by assumption) ?_ | with_reducible refine bel_alloc0 ?_ _ | with_reducible refine bel_regrown0 ?_ _ _ | with_reducible refine bel_regrown ?_ (by first | omega | (simp; done) | (simp; omega)) _ _ | with_reducible refine below_drewN ?_ _ | with_reducible refine Below.drew ?_ | with_reducible refine Below.alloc ?_ (by first | omega | (simp; done) | (simp; omega)) _ | with_reducible refine Below.setCell ?_ (by first | omega | (simp; done) | (simp; omega)) _ | with_reducible refine bel_step (by assumption) (by first | omega | (simp; done) | (simp; omega)) ?_ | with_reducible refine bel_grown (by assumption) (by first | omega | (simp; done) | (simp; omega)) (by first | omega | (simp; done) | (simp; omega)) ?_))⟩
  cases hd : within day 0 20000
  · have hl : lateOk n R day = false := by unfold lateOk; rw [hok, hd]; rfl
    have hl2 : late n R day = [] := by unfold late; rw [hl]; rfl
    rw [hl, hl2]
    go_enter Try.func58, Try.ntmps58
    go_wp2_with (first | (go_at_call 77; refine (C_l23Good _ _ _ _ (HV.out.below (by (repeat (first | with_reducible exact Below.refl _ _ | with_reducible exact below_regrown _ _ _ | with_reducible refine bel_step0 (by assumption) ?_ | with_reducible refine bel_alloc0 ?_ _ | with_reducible refine bel_regrown0 ?_ _ _ | with_reducible refine bel_regrown ?_ (by first | omega | (simp; done) | (simp; omega)) _ _ | with_reducible refine below_drewN ?_ _ | with_reducible refine Below.drew ?_ | with_reducible refine Below.alloc ?_ (by first | omega | (simp; done) | (simp; omega)) _ | with_reducible refine Below.setCell ?_ (by first | omega | (simp; done) | (simp; omega)) _ | with_reducible refine bel_step (by assumption) (by first | omega | (simp; done) | (simp; omega)) ?_ | with_reducible refine bel_grown (by assumption) (by first | omega | (simp; done) | (simp; omega)) (by first | omega | (simp; done) | (simp; omega)) ?_))))).mono ?_; rintro e w1 ⟨rfl, hb1⟩; simp only [hok]) | (go_at_call 100; refine (C_l2Day _ _).mono ?_; rintro e w2 ⟨rfl, rfl⟩; simp only [hd]))
    go_ret2
    exact ⟨_, rfl, (OI.empty (Nat.le_refl _)).below hb1, by (repeat (first | with_reducible exact Below.refl _ _ | with_reducible exact below_regrown _ _ _ | with_reducible refine bel_step0 (by assumption) ?_ | with_reducible refine bel_alloc0 ?_ _ | with_reducible refine bel_regrown0 ?_ _ _ | with_reducible refine bel_regrown ?_ (by first | omega | (simp; done) | (simp; omega)) _ _ | with_reducible refine below_drewN ?_ _ | with_reducible refine Below.drew ?_ | with_reducible refine Below.alloc ?_ (by first | omega | (simp; done) | (simp; omega)) _ | with_reducible refine Below.setCell ?_ (by first | omega | (simp; done) | (simp; omega)) _ | with_reducible refine bel_step (by assumption) (by first | omega | (simp; done) | (simp; omega)) ?_ | with_reducible refine bel_grown (by assumption) (by first | omega | (simp; done) | (simp; omega)) (by first | omega | (simp; done) | (simp; omega)) ?_))⟩
  have hl : lateOk n R day = true := by unfold lateOk; rw [hok, hd]; rfl
  have hl2 : late n R day = (srtE ltP (lateP R day n)).map (·.1) := by unfold late; rw [hl]; rfl
  rw [hl, hl2]
  have hn10 := okRs_le hok
  clear hl hl2
  go_enter Try.func58, Try.ntmps58
  go_wp2_with (first | (go_at_call 77; refine (C_l23Good _ _ _ _ (HV.out.below (by (repeat (first | with_reducible exact Below.refl _ _ | with_reducible exact below_regrown _ _ _ | with_reducible refine bel_step0 (by assumption) ?_ | with_reducible refine bel_alloc0 ?_ _ | with_reducible refine bel_regrown0 ?_ _ _ | with_reducible refine bel_regrown ?_ (by first | omega | (simp; done) | (simp; omega)) _ _ | with_reducible refine below_drewN ?_ _ | with_reducible refine Below.drew ?_ | with_reducible refine Below.alloc ?_ (by first | omega | (simp; done) | (simp; omega)) _ | with_reducible refine Below.setCell ?_ (by first | omega | (simp; done) | (simp; omega)) _ | with_reducible refine bel_step (by assumption) (by first | omega | (simp; done) | (simp; omega)) ?_ | with_reducible refine bel_grown (by assumption) (by first | omega | (simp; done) | (simp; omega)) (by first | omega | (simp; done) | (simp; omega)) ?_))))).mono ?_; rintro e w1 ⟨rfl, hb1⟩; simp only [hok]) | (go_at_call 100; refine (C_l2Day _ _).mono ?_; rintro e w2 ⟨rfl, rfl⟩; simp only [hd]))
  have hO6 : OI w.heap.size w1 (.slice (some ⟨w.heap.size, 0, none⟩) 0 0) [] := (OI.empty (Nat.le_refl _)).below hb1
  have B1 : Below w.heap.size w w1 := by (repeat (first | with_reducible exact Below.refl _ _ | with_reducible exact below_regrown _ _ _ | with_reducible refine bel_step0 (by assumption) ?_ | with_reducible refine bel_alloc0 ?_ _ | with_reducible refine bel_regrown0 ?_ _ _ | with_reducible refine bel_regrown ?_ (by first | omega | (simp; done) | (simp; omega)) _ _ | with_reducible refine below_drewN ?_ _ | with_reducible refine Below.drew ?_ | with_reducible refine Below.alloc ?_ (by first | omega | (simp; done) | (simp; omega)) _ | with_reducible refine Below.setCell ?_ (by first | omega | (simp; done) | (simp; omega)) _ | with_reducible refine bel_step (by assumption) (by first | omega | (simp; done) | (simp; omega)) ?_ | with_reducible refine bel_grown (by assumption) (by first | omega | (simp; done) | (simp; omega)) (by first | omega | (simp; done) | (simp; omega)) ?_))
  obtain ⟨w2, hw2⟩ : ∃ w2, w2 = w1.alloc (.cells #[] 27) := ⟨_, rfl⟩
  obtain ⟨g2, hg2⟩ : ∃ g2, g2 = w1.heap.size := ⟨_, rfl⟩
  have hz1 := B1.size
  have O2 : OE w.heap.size w2 (.slice (some ⟨g2, 0, none⟩) 0 0) [] := by rw [hw2, hg2]; exact OE.emptyAt rfl hz1
  have X2 := Lib.hid (And.intro (show OI w.heap.size w2 (.slice (some ⟨w.heap.size, 0, none⟩) 0 0) [] by rw [hw2]; exact hO6.alloc _) (And.intro O2 (show Below w.heap.size w w2 by rw [hw2]; exact bel_alloc0 B1 _)))
  rw [← hw2, ← hg2]
  clear hb1 hok hd hO6 B1 hw2 hg2 O2 hz1
  go_loopw [7, 8] (fun o i wr => ∃ (k : Nat) (s : List El), k ≤ n ∧ i = .int .i64 k ∧ OE w.heap.size wr o s ∧ s.map El.pr = srtE ltP (lateP R day k) ∧ OI w.heap.size wr (.slice (some ⟨w.heap.size, 0, none⟩) 0 0) [] ∧ Below w.heap.size w wr) (fun _ i _ => n - (intOf i).toNat)
  case atStart => exact ⟨0, [], Nat.zero_le _, rfl, X2.out.2.1, rfl, X2.out.1, X2.out.2.2⟩
  case round =>
    clear X2
    obtain ⟨k, s, hk, rfl, ho, hsp, ho6, hB⟩ := hrel
    have hsl : s.length ≤ k := by
      have h1 : (s.map El.pr).length = (lateP R day k).length := by rw [hsp, srtE_len]
      rw [List.length_map] at h1
      have := lateP_le R day k
      omega
    obtain ⟨L, hL⟩ : ∃ L, s.length = L := ⟨_, rfl⟩
    by_cases hlt : k < n
    · obtain ⟨b, off, rfl, hb, hcell⟩ := HR.out (by omega)
      obtain ⟨sv, hsv, hck0, hck1, hck2⟩ := hcell k hlt; have hsv0 := hsv; obtain ⟨A1, c1, rfl, hsr1, hsc1, hsm1⟩ := hsv0; clear hsr1
      have G := Lib.hid (fun W (hW : Below w.heap.size w W) => And.intro ((hW.cell (p := ⟨b, off + k * 3, none⟩) hb).trans hck0) (And.intro ((hW.cell (p := ⟨b, off + k * 3 + 1, none⟩) hb).trans hck1) ((hW.cell (p := ⟨b, off + k * 3 + 2, none⟩) hb).trans hck2)))
      obtain ⟨hck0, hck1, hck2⟩ := G.out _ hB
      have hk0 : (0 : Int) ≤ (k : Int) := by omega
      have hk1 : (k : Int) < (n : Int) := by omega
      have HB := Lib.hid hB
      have HO := Lib.hid ho
      have HO6 := Lib.hid ho6
      have hzs := hB.size
      have hstep : lateP R day (k + 1) = lateP R day k ++ (if lateB (R k) day then [((R k).rid, (R k).due)] else []) := rfl
      obtain ⟨SA, sc, rfl, hsc2, hsm2, _⟩ := own3.form ho
      rw [hL] at hsl hsc2 HO ⊢
      clear hcell hsv ho ho6
      cases hlb : lateB (R k) day
      · have HST := Lib.hid (show lateP R day (k + 1) = lateP R day k by rw [hstep, hlb]; simp)
        clear hstep
        have hor : ¬ (R k).due < day ∨ ((R k).due < day ∧ ¬ ((R k).n : Int) < 3) := by
          simp only [lateB, Bool.and_eq_false_iff, decide_eq_false_iff_not] at hlb
          omega
        clear hlb
        rcases hor with hor | ⟨hor1, hor2⟩
        all_goals
          go_wp2
          go_roundw
          case rel => exact ⟨k + 1, s, by omega, by go_num, HO.out, by rw [HST.out]; exact hsp, HO6.out, HB.out⟩
          case measure => simp [intOf]; omega
      · have hst : lateP R day (k + 1) = lateP R day k ++ [((R k).rid, (R k).due)] := by rw [hstep, hlb]; simp
        obtain ⟨x, hx⟩ : ∃ x : El, x = ⟨(R k).rid, (R k).due, A1, (R k).n, c1⟩ := ⟨_, rfl⟩
        have hnew : (insAt s (posE ltE s x L) x).map El.pr = srtE ltP (lateP R day (k + 1)) := by
          rw [hst, srtE_snoc, ← hsp]
          unfold insE insAt
          rw [List.map_append, List.map_cons, List.map_take, List.map_drop, posE_map El.pr ltE ltP (fun x y => rfl) s x L (by omega), List.length_map, hL, hx]
          rfl
        have HNEW := Lib.hid hnew
        simp only [lateB, Bool.and_eq_true, decide_eq_true_eq] at hlb
        obtain ⟨hd1, hd2⟩ := hlb
        have hxd : (R k).due = x.due := by rw [hx]
        have hxr : (R k).rid = x.rid := by rw [hx]
        have hxn : (R k).n = x.n := by rw [hx]
        have hxA : A1 = x.A := by rw [hx]
        have hxc : c1 = x.c := by rw [hx]
        rw [hxd] at hck1 hd1 G
        rw [hxr] at hck0 G
        rw [hxn, hxA, hxc] at hck2 G
        rw [hxn] at hd2
        have HSL := Lib.hid hL
        clear hst hstep hnew hsp hx hxd hxr hxn hxA hxc hsc1 hL
        go_wp2
        go_loopw [9] (fun i wi => ∃ j : Nat, i = .int .i64 j ∧ j ≤ L ∧ posE ltE s x L = posE ltE s x j ∧ OE w.heap.size wi (.slice SA L sc) s ∧ OI w.heap.size wi (.slice (some ⟨w.heap.size, 0, none⟩) 0 0) [] ∧ Below w.heap.size w wi) (fun i _ => (intOf i).toNat)
        case atStart => exact ⟨L, rfl, Nat.le_refl _, rfl, HO.out, HO6.out, HB.out⟩
        case round =>
          clear HO HO6 HB hck0 hck1 hck2 hB hzs
          obtain ⟨j, rfl, hjL, hpos, ho, ho6, hB⟩ := hrel
          obtain ⟨t0, t1, t2⟩ := G.out _ hB
          have gt0 := cell_regrown t0; have gt1 := cell_regrown t1; have gt2 := cell_regrown t2
          have HO := Lib.hid ho
          have HO6 := Lib.hid ho6
          have HB := Lib.hid hB
          clear t0 t1 t2 hB ho6
          by_cases hj : 0 < j
          · have hj2 : (0 : Int) < (j : Int) := by omega
            obtain ⟨q, hq⟩ : ∃ q : Nat, (j : Int) - 1 = (q : Int) := ⟨j - 1, by omega⟩
            have hqj : j = q + 1 := by omega
            obtain ⟨A', c', e', _, _, hA'⟩ := own3.form ho
            injection e' with e1 e2 e3
            obtain ⟨g, rfl, _, hgl⟩ := hA' (by rw [HSL.out]; omega)
            subst e1
            obtain ⟨c0, c1, c2⟩ := OE.cells ho (j := q) (by rw [HSL.out]; omega)
            obtain ⟨y, hy⟩ : ∃ y, atE s q = y := ⟨_, rfl⟩
            rw [hy] at c0 c1 c2
            have g0 := cell_regrown c0; have g1 := cell_regrown c1; have g2 := cell_regrown c2
            have hq0 : (0 : Int) ≤ (q : Int) := by omega
            have hq1 : (q : Int) < (L : Int) := by omega
            have hlE : ltE x y = decide (x.due < y.due) := rfl
            by_cases hlt2 : x.due < y.due
            · have HP := Lib.hid (show posE ltE s x L = posE ltE s x q by rw [hpos, hqj]; exact posE_yes (by rw [hy, hlE]; simpa using hlt2))
              clear e2 e3 hA' hqj hpos hy hlE c0 c1 c2
              go_wp2
              (refine wp_region_quiet_below (by kernel_rfl) (by kernel_rfl) ?_; (repeat (go_big_quiet_step (fail))); refine wpQuiet_nil ?_; intro _ hw'; obtain ⟨⟨dq, osq⟩, hw''⟩ := hw'; subst hw'')
              go_wp2
              go_roundw
              case rel => exact ⟨q, rfl, by omega, HP.out, HO.out.below (below_regrown _ _ _), HO6.out.below (below_regrown _ _ _), bel_regrown0 HB.out _ _⟩
              case measure => simp [intOf]; omega
            have HP := Lib.hid (show posE ltE s x L = j by rw [hpos, hqj]; exact posE_no (by rw [hy, hlE]; simpa using hlt2))
            clear e2 e3 hA' hqj hpos hy hlE c0 c1 c2
            go_wp2
            (refine wp_region_quiet_below (by kernel_rfl) (by kernel_rfl) ?_; (repeat (go_big_quiet_step (fail))); refine wpQuiet_nil ?_; intro _ hw'; obtain ⟨⟨dq, osq⟩, hw''⟩ := hw'; subst hw'')
            clear g0 g1 g2 gt0 gt1 gt2 hq hq0 hq1 hj2
            obtain ⟨w5, hw5⟩ : ∃ w5, w5 = grow (redrawn wr dq) osq := ⟨_, rfl⟩
            have O5 := Lib.hid (show OE w.heap.size w5 (.slice (some (⟨g, 0, none⟩ : Addr)) L sc) s by rw [hw5]; exact HO.out.below (below_regrown _ _ _))
            have I5 := Lib.hid (show OI w.heap.size w5 (.slice (some ⟨w.heap.size, 0, none⟩) 0 0) [] by rw [hw5]; exact HO6.out.below (below_regrown _ _ _))
            have B5 := Lib.hid (show Below w.heap.size w w5 by rw [hw5]; exact bel_regrown0 HB.out _ _)
            rw [← hw5]
            have hwz := B5.out.size
            have r0 : ∀ W, Below w5.heap.size w5 W → W.cell? ⟨b, off + k * 3, none⟩ = some (.int .i64 x.rid) := fun W hW => (G.out W (bel_step0 hW B5.out)).1
            have r1 : ∀ W, Below w5.heap.size w5 W → W.cell? ⟨b, off + k * 3 + 1, none⟩ = some (.int .i64 x.due) := fun W hW => (G.out W (bel_step0 hW B5.out)).2.1
            have r2 : ∀ W, Below w5.heap.size w5 W → W.cell? ⟨b, off + k * 3 + 2, none⟩ = some (.slice x.A x.n x.c) := fun W hW => (G.out W (bel_step0 hW B5.out)).2.2
            have HTK := Lib.hid (O5.out.re.take j)
            have HTKL := Lib.hid (show (s.take j).length = j by rw [List.length_take, HSL.out]; omega)
            have HFIN := Lib.hid (show ([] ++ s.take j ++ [x] ++ s.drop j).map El.pr = srtE ltP (lateP R day (k + 1)) by have h := HNEW.out; rw [HP.out] at h; unfold insAt at h; simpa using h)
            have hj0 : (0 : Int) ≤ (j : Int) := by omega
            have hj3 : (j : Int) ≤ (sc : Int) := by omega
            have hj4 : (L : Int) ≤ (sc : Int) := by omega
            clear HO HO6 HB hw5
            by_cases hjl : j < L
            · have hk4 : ¬ sc = j := by omega
              have hj1 : (j : Int) ≤ (L : Int) := by omega
              obtain ⟨A', c', e', _, _, hA'⟩ := own3.form O5.out
              injection e' with e1 e2 e3
              obtain ⟨gq, hgq, _, _⟩ := hA' (by rw [HSL.out]; omega)
              have hSA : (some (⟨g, 0, none⟩ : Addr)) = some ⟨gq, 0, none⟩ := e1.trans hgq
              clear hSA
              have HDRL := Lib.hid (show (s.drop j).length = L - j by rw [List.length_drop, HSL.out])
              have htl := RE.drop O5.out.re j
              rw [Nat.zero_add] at htl
              have HTL := Lib.hid htl
              clear htl e1 e2 e3 hgq hA'
              go_wp2
              go_region_held3 (fun W => Below w5.heap.size w5 W) (((repeat (first | with_reducible exact Below.refl _ _ | with_reducible exact below_regrown _ _ _ | with_reducible refine bel_step0 (by assumption) ?_ | with_reducible refine bel_alloc0 ?_ _ | with_reducible refine bel_regrown0 ?_ _ _ | with_reducible refine bel_regrown ?_ (by first | omega | (simp; done) | (simp; omega)) _ _ | with_reducible refine below_drewN ?_ _ | with_reducible refine Below.drew ?_ | with_reducible refine Below.alloc ?_ (by first | omega | (simp; done) | (simp; omega)) _ | with_reducible refine Below.setCell ?_ (by first | omega | (simp; done) | (simp; omega)) _ | with_reducible refine bel_step (by assumption) (by first | omega | (simp; done) | (simp; omega)) ?_ | with_reducible refine bel_grown (by assumption) (by first | omega | (simp; done) | (simp; omega)) (by first | omega | (simp; done) | (simp; omega)) ?_)))) (first | ((refine step_appE _ (by rfl) (.tmp 64) (.tmp 67) (by rfl) w5 _ [] _ (by rfl) (by first | exact OE.emptyAt (by simp) (by simp) | exact OE.alloc (OE.emptyAt (by simp) (by simp)) _) (by (repeat (first | with_reducible exact Below.refl _ _ | with_reducible exact below_regrown _ _ _ | with_reducible refine bel_step0 (by assumption) ?_ | with_reducible refine bel_alloc0 ?_ _ | with_reducible refine bel_regrown0 ?_ _ _ | with_reducible refine bel_regrown ?_ (by first | omega | (simp; done) | (simp; omega)) _ _ | with_reducible refine below_drewN ?_ _ | with_reducible refine Below.drew ?_ | with_reducible refine Below.alloc ?_ (by first | omega | (simp; done) | (simp; omega)) _ | with_reducible refine Below.setCell ?_ (by first | omega | (simp; done) | (simp; omega)) _ | with_reducible refine bel_step (by assumption) (by first | omega | (simp; done) | (simp; omega)) ?_ | with_reducible refine bel_grown (by assumption) (by first | omega | (simp; done) | (simp; omega)) (by first | omega | (simp; done) | (simp; omega)) ?_))) _ _ _ HTKL.out (by rfl) (HTK.out.below (by (repeat (first | with_reducible exact Below.refl _ _ | with_reducible exact below_regrown _ _ _ | with_reducible refine bel_step0 (by assumption) ?_ | with_reducible refine bel_alloc0 ?_ _ | with_reducible refine bel_regrown0 ?_ _ _ | with_reducible refine bel_regrown ?_ (by first | omega | (simp; done) | (simp; omega)) _ _ | with_reducible refine below_drewN ?_ _ | with_reducible refine Below.drew ?_ | with_reducible refine Below.alloc ?_ (by first | omega | (simp; done) | (simp; omega)) _ | with_reducible refine Below.setCell ?_ (by first | omega | (simp; done) | (simp; omega)) _ | with_reducible refine bel_step (by assumption) (by first | omega | (simp; done) | (simp; omega)) ?_ | with_reducible refine bel_grown (by assumption) (by first | omega | (simp; done) | (simp; omega)) (by first | omega | (simp; done) | (simp; omega)) ?_)))) (by simp; omega) ?_; intro v2 w2 ho2 hb2 hq2 hs2; have HQ2 := Lib.hid hq2; clear hq2)) | ((refine step_appE _ (by rfl) (.tmp 68) (.tmp 73) (by rfl) w5 _ _ [x] (by rfl) (by first | exact ho2 | exact OE.alloc ho2 _) (by (repeat (first | with_reducible exact Below.refl _ _ | with_reducible exact below_regrown _ _ _ | with_reducible refine bel_step0 (by assumption) ?_ | with_reducible refine bel_alloc0 ?_ _ | with_reducible refine bel_regrown0 ?_ _ _ | with_reducible refine bel_regrown ?_ (by first | omega | (simp; done) | (simp; omega)) _ _ | with_reducible refine below_drewN ?_ _ | with_reducible refine Below.drew ?_ | with_reducible refine Below.alloc ?_ (by first | omega | (simp; done) | (simp; omega)) _ | with_reducible refine Below.setCell ?_ (by first | omega | (simp; done) | (simp; omega)) _ | with_reducible refine bel_step (by assumption) (by first | omega | (simp; done) | (simp; omega)) ?_ | with_reducible refine bel_grown (by assumption) (by first | omega | (simp; done) | (simp; omega)) (by first | omega | (simp; done) | (simp; omega)) ?_))) _ 1 1 (by rfl) (by rfl) (by first | exact re_lit _ _ _ | exact re_kept1 HQ2.out | exact re_kept0 HQ2.out) (by rw [List.nil_append, HTKL.out]; omega) ?_; intro v3 w3 ho3 hb3 hq3 hs3; clear hq3 hs3)) | ((refine step_appE _ (by rfl) (.tmp 74) (.tmp 77) (by rfl) w5 _ _ _ (by rfl) ho3 (by (repeat (first | with_reducible exact Below.refl _ _ | with_reducible exact below_regrown _ _ _ | with_reducible refine bel_step0 (by assumption) ?_ | with_reducible refine bel_alloc0 ?_ _ | with_reducible refine bel_regrown0 ?_ _ _ | with_reducible refine bel_regrown ?_ (by first | omega | (simp; done) | (simp; omega)) _ _ | with_reducible refine below_drewN ?_ _ | with_reducible refine Below.drew ?_ | with_reducible refine Below.alloc ?_ (by first | omega | (simp; done) | (simp; omega)) _ | with_reducible refine Below.setCell ?_ (by first | omega | (simp; done) | (simp; omega)) _ | with_reducible refine bel_step (by assumption) (by first | omega | (simp; done) | (simp; omega)) ?_ | with_reducible refine bel_grown (by assumption) (by first | omega | (simp; done) | (simp; omega)) (by first | omega | (simp; done) | (simp; omega)) ?_))) _ _ _ HDRL.out (by rfl) ((HTL.out.below (by (repeat (first | with_reducible exact Below.refl _ _ | with_reducible exact below_regrown _ _ _ | with_reducible refine bel_step0 (by assumption) ?_ | with_reducible refine bel_alloc0 ?_ _ | with_reducible refine bel_regrown0 ?_ _ _ | with_reducible refine bel_regrown ?_ (by first | omega | (simp; done) | (simp; omega)) _ _ | with_reducible refine below_drewN ?_ _ | with_reducible refine Below.drew ?_ | with_reducible refine Below.alloc ?_ (by first | omega | (simp; done) | (simp; omega)) _ | with_reducible refine Below.setCell ?_ (by first | omega | (simp; done) | (simp; omega)) _ | with_reducible refine bel_step (by assumption) (by first | omega | (simp; done) | (simp; omega)) ?_ | with_reducible refine bel_grown (by assumption) (by first | omega | (simp; done) | (simp; omega)) (by first | omega | (simp; done) | (simp; omega)) ?_))))) (by rw [List.length_append, List.nil_append, HTKL.out]; simp; omega) ?_; intro v4 w4 ho4 hb4 hq4 hs4; clear hq4 hs4)))
              all_goals
                go_wp2
                go_roundw
                case rel => exact ⟨k + 1, _, by omega, by go_num, OE.mono hwz ho4, HFIN.out, I5.out.below hb4, bel_step0 hb4 B5.out⟩
                case measure => simp [intOf]; omega
            · obtain rfl : L = j := by omega
              have HDR0 := Lib.hid (show s.drop L = [] from List.drop_eq_nil_of_le (by rw [HSL.out]; exact Nat.le_refl _))
              have HDRL := Lib.hid (show (s.drop L).length = 0 by rw [HDR0.out]; rfl)
              by_cases hcn : sc = L
              · obtain rfl : L = sc := hcn.symm
                clear hcn
                go_wp2
                go_region_held3 (fun W => Below w5.heap.size w5 W) (((repeat (first | with_reducible exact Below.refl _ _ | with_reducible exact below_regrown _ _ _ | with_reducible refine bel_step0 (by assumption) ?_ | with_reducible refine bel_alloc0 ?_ _ | with_reducible refine bel_regrown0 ?_ _ _ | with_reducible refine bel_regrown ?_ (by first | omega | (simp; done) | (simp; omega)) _ _ | with_reducible refine below_drewN ?_ _ | with_reducible refine Below.drew ?_ | with_reducible refine Below.alloc ?_ (by first | omega | (simp; done) | (simp; omega)) _ | with_reducible refine Below.setCell ?_ (by first | omega | (simp; done) | (simp; omega)) _ | with_reducible refine bel_step (by assumption) (by first | omega | (simp; done) | (simp; omega)) ?_ | with_reducible refine bel_grown (by assumption) (by first | omega | (simp; done) | (simp; omega)) (by first | omega | (simp; done) | (simp; omega)) ?_)))) (first | ((refine step_appE _ (by rfl) (.tmp 64) (.tmp 67) (by rfl) w5 _ [] _ (by rfl) (by first | exact OE.emptyAt (by simp) (by simp) | exact OE.alloc (OE.emptyAt (by simp) (by simp)) _) (by (repeat (first | with_reducible exact Below.refl _ _ | with_reducible exact below_regrown _ _ _ | with_reducible refine bel_step0 (by assumption) ?_ | with_reducible refine bel_alloc0 ?_ _ | with_reducible refine bel_regrown0 ?_ _ _ | with_reducible refine bel_regrown ?_ (by first | omega | (simp; done) | (simp; omega)) _ _ | with_reducible refine below_drewN ?_ _ | with_reducible refine Below.drew ?_ | with_reducible refine Below.alloc ?_ (by first | omega | (simp; done) | (simp; omega)) _ | with_reducible refine Below.setCell ?_ (by first | omega | (simp; done) | (simp; omega)) _ | with_reducible refine bel_step (by assumption) (by first | omega | (simp; done) | (simp; omega)) ?_ | with_reducible refine bel_grown (by assumption) (by first | omega | (simp; done) | (simp; omega)) (by first | omega | (simp; done) | (simp; omega)) ?_))) _ _ _ HTKL.out (by rfl) (HTK.out.below (by (repeat (first | with_reducible exact Below.refl _ _ | with_reducible exact below_regrown _ _ _ | with_reducible refine bel_step0 (by assumption) ?_ | with_reducible refine bel_alloc0 ?_ _ | with_reducible refine bel_regrown0 ?_ _ _ | with_reducible refine bel_regrown ?_ (by first | omega | (simp; done) | (simp; omega)) _ _ | with_reducible refine below_drewN ?_ _ | with_reducible refine Below.drew ?_ | with_reducible refine Below.alloc ?_ (by first | omega | (simp; done) | (simp; omega)) _ | with_reducible refine Below.setCell ?_ (by first | omega | (simp; done) | (simp; omega)) _ | with_reducible refine bel_step (by assumption) (by first | omega | (simp; done) | (simp; omega)) ?_ | with_reducible refine bel_grown (by assumption) (by first | omega | (simp; done) | (simp; omega)) (by first | omega | (simp; done) | (simp; omega)) ?_)))) (by simp; omega) ?_; intro v2 w2 ho2 hb2 hq2 hs2; have HQ2 := Lib.hid hq2; clear hq2)) | ((refine step_appE _ (by rfl) (.tmp 68) (.tmp 73) (by rfl) w5 _ _ [x] (by rfl) (by first | exact ho2 | exact OE.alloc ho2 _) (by (repeat (first | with_reducible exact Below.refl _ _ | with_reducible exact below_regrown _ _ _ | with_reducible refine bel_step0 (by assumption) ?_ | with_reducible refine bel_alloc0 ?_ _ | with_reducible refine bel_regrown0 ?_ _ _ | with_reducible refine bel_regrown ?_ (by first | omega | (simp; done) | (simp; omega)) _ _ | with_reducible refine below_drewN ?_ _ | with_reducible refine Below.drew ?_ | with_reducible refine Below.alloc ?_ (by first | omega | (simp; done) | (simp; omega)) _ | with_reducible refine Below.setCell ?_ (by first | omega | (simp; done) | (simp; omega)) _ | with_reducible refine bel_step (by assumption) (by first | omega | (simp; done) | (simp; omega)) ?_ | with_reducible refine bel_grown (by assumption) (by first | omega | (simp; done) | (simp; omega)) (by first | omega | (simp; done) | (simp; omega)) ?_))) _ 1 1 (by rfl) (by rfl) (by first | exact re_lit _ _ _ | exact re_kept1 HQ2.out | exact re_kept0 HQ2.out) (by rw [List.nil_append, HTKL.out]; omega) ?_; intro v3 w3 ho3 hb3 hq3 hs3; clear hq3 hs3)) | ((refine step_appE _ (by rfl) (.tmp 74) (.tmp 77) (by rfl) w5 _ _ _ (by rfl) ho3 (by (repeat (first | with_reducible exact Below.refl _ _ | with_reducible exact below_regrown _ _ _ | with_reducible refine bel_step0 (by assumption) ?_ | with_reducible refine bel_alloc0 ?_ _ | with_reducible refine bel_regrown0 ?_ _ _ | with_reducible refine bel_regrown ?_ (by first | omega | (simp; done) | (simp; omega)) _ _ | with_reducible refine below_drewN ?_ _ | with_reducible refine Below.drew ?_ | with_reducible refine Below.alloc ?_ (by first | omega | (simp; done) | (simp; omega)) _ | with_reducible refine Below.setCell ?_ (by first | omega | (simp; done) | (simp; omega)) _ | with_reducible refine bel_step (by assumption) (by first | omega | (simp; done) | (simp; omega)) ?_ | with_reducible refine bel_grown (by assumption) (by first | omega | (simp; done) | (simp; omega)) (by first | omega | (simp; done) | (simp; omega)) ?_))) _ _ _ HDRL.out (by rfl) ((RE.of_nil HDR0.out)) (by rw [List.length_append, List.nil_append, HTKL.out]; simp; omega) ?_; intro v4 w4 ho4 hb4 hq4 hs4; clear hq4 hs4)))
                all_goals
                  go_wp2
                  go_roundw
                  case rel => exact ⟨k + 1, _, by omega, by go_num, OE.mono hwz ho4, HFIN.out, I5.out.below hb4, bel_step0 hb4 B5.out⟩
                  case measure => simp [intOf]; omega
              · have hex : ∃ gq, (some (⟨g, 0, none⟩ : Addr)) = some ⟨gq, 0, none⟩ := by
                  obtain ⟨xs, h1, _⟩ := O5.out
                  rcases h1.2 with ⟨e, h0⟩ | ⟨gq, cap', cur, e, _⟩
                  · injection e with _ e1 e2; rw [HSL.out] at h0; omega
                  · injection e with e1 _ _; exact ⟨gq, e1⟩
                obtain ⟨gq, hSA⟩ := hex
                clear hSA
                go_wp2
                go_region_held3 (fun W => Below w5.heap.size w5 W) (((repeat (first | with_reducible exact Below.refl _ _ | with_reducible exact below_regrown _ _ _ | with_reducible refine bel_step0 (by assumption) ?_ | with_reducible refine bel_alloc0 ?_ _ | with_reducible refine bel_regrown0 ?_ _ _ | with_reducible refine bel_regrown ?_ (by first | omega | (simp; done) | (simp; omega)) _ _ | with_reducible refine below_drewN ?_ _ | with_reducible refine Below.drew ?_ | with_reducible refine Below.alloc ?_ (by first | omega | (simp; done) | (simp; omega)) _ | with_reducible refine Below.setCell ?_ (by first | omega | (simp; done) | (simp; omega)) _ | with_reducible refine bel_step (by assumption) (by first | omega | (simp; done) | (simp; omega)) ?_ | with_reducible refine bel_grown (by assumption) (by first | omega | (simp; done) | (simp; omega)) (by first | omega | (simp; done) | (simp; omega)) ?_)))) (first | ((refine step_appE _ (by rfl) (.tmp 64) (.tmp 67) (by rfl) w5 _ [] _ (by rfl) (by first | exact OE.emptyAt (by simp) (by simp) | exact OE.alloc (OE.emptyAt (by simp) (by simp)) _) (by (repeat (first | with_reducible exact Below.refl _ _ | with_reducible exact below_regrown _ _ _ | with_reducible refine bel_step0 (by assumption) ?_ | with_reducible refine bel_alloc0 ?_ _ | with_reducible refine bel_regrown0 ?_ _ _ | with_reducible refine bel_regrown ?_ (by first | omega | (simp; done) | (simp; omega)) _ _ | with_reducible refine below_drewN ?_ _ | with_reducible refine Below.drew ?_ | with_reducible refine Below.alloc ?_ (by first | omega | (simp; done) | (simp; omega)) _ | with_reducible refine Below.setCell ?_ (by first | omega | (simp; done) | (simp; omega)) _ | with_reducible refine bel_step (by assumption) (by first | omega | (simp; done) | (simp; omega)) ?_ | with_reducible refine bel_grown (by assumption) (by first | omega | (simp; done) | (simp; omega)) (by first | omega | (simp; done) | (simp; omega)) ?_))) _ _ _ HTKL.out (by rfl) (HTK.out.below (by (repeat (first | with_reducible exact Below.refl _ _ | with_reducible exact below_regrown _ _ _ | with_reducible refine bel_step0 (by assumption) ?_ | with_reducible refine bel_alloc0 ?_ _ | with_reducible refine bel_regrown0 ?_ _ _ | with_reducible refine bel_regrown ?_ (by first | omega | (simp; done) | (simp; omega)) _ _ | with_reducible refine below_drewN ?_ _ | with_reducible refine Below.drew ?_ | with_reducible refine Below.alloc ?_ (by first | omega | (simp; done) | (simp; omega)) _ | with_reducible refine Below.setCell ?_ (by first | omega | (simp; done) | (simp; omega)) _ | with_reducible refine bel_step (by assumption) (by first | omega | (simp; done) | (simp; omega)) ?_ | with_reducible refine bel_grown (by assumption) (by first | omega | (simp; done) | (simp; omega)) (by first | omega | (simp; done) | (simp; omega)) ?_)))) (by simp; omega) ?_; intro v2 w2 ho2 hb2 hq2 hs2; have HQ2 := Lib.hid hq2; clear hq2)) | ((refine step_appE _ (by rfl) (.tmp 68) (.tmp 73) (by rfl) w5 _ _ [x] (by rfl) (by first | exact ho2 | exact OE.alloc ho2 _) (by (repeat (first | with_reducible exact Below.refl _ _ | with_reducible exact below_regrown _ _ _ | with_reducible refine bel_step0 (by assumption) ?_ | with_reducible refine bel_alloc0 ?_ _ | with_reducible refine bel_regrown0 ?_ _ _ | with_reducible refine bel_regrown ?_ (by first | omega | (simp; done) | (simp; omega)) _ _ | with_reducible refine below_drewN ?_ _ | with_reducible refine Below.drew ?_ | with_reducible refine Below.alloc ?_ (by first | omega | (simp; done) | (simp; omega)) _ | with_reducible refine Below.setCell ?_ (by first | omega | (simp; done) | (simp; omega)) _ | with_reducible refine bel_step (by assumption) (by first | omega | (simp; done) | (simp; omega)) ?_ | with_reducible refine bel_grown (by assumption) (by first | omega | (simp; done) | (simp; omega)) (by first | omega | (simp; done) | (simp; omega)) ?_))) _ 1 1 (by rfl) (by rfl) (by first | exact re_lit _ _ _ | exact re_kept1 HQ2.out | exact re_kept0 HQ2.out) (by rw [List.nil_append, HTKL.out]; omega) ?_; intro v3 w3 ho3 hb3 hq3 hs3; clear hq3 hs3)) | ((refine step_appE _ (by rfl) (.tmp 74) (.tmp 77) (by rfl) w5 _ _ _ (by rfl) ho3 (by (repeat (first | with_reducible exact Below.refl _ _ | with_reducible exact below_regrown _ _ _ | with_reducible refine bel_step0 (by assumption) ?_ | with_reducible refine bel_alloc0 ?_ _ | with_reducible refine bel_regrown0 ?_ _ _ | with_reducible refine bel_regrown ?_ (by first | omega | (simp; done) | (simp; omega)) _ _ | with_reducible refine below_drewN ?_ _ | with_reducible refine Below.drew ?_ | with_reducible refine Below.alloc ?_ (by first | omega | (simp; done) | (simp; omega)) _ | with_reducible refine Below.setCell ?_ (by first | omega | (simp; done) | (simp; omega)) _ | with_reducible refine bel_step (by assumption) (by first | omega | (simp; done) | (simp; omega)) ?_ | with_reducible refine bel_grown (by assumption) (by first | omega | (simp; done) | (simp; omega)) (by first | omega | (simp; done) | (simp; omega)) ?_))) _ _ _ HDRL.out (by rfl) ((RE.of_nil HDR0.out)) (by rw [List.length_append, List.nil_append, HTKL.out]; simp; omega) ?_; intro v4 w4 ho4 hb4 hq4 hs4; clear hq4 hs4)))
                all_goals
                  go_wp2
                  go_roundw
                  case rel => exact ⟨k + 1, _, by omega, by go_num, OE.mono hwz ho4, HFIN.out, I5.out.below hb4, bel_step0 hb4 B5.out⟩
                  case measure => simp [intOf]; omega
          · have hj2 : ¬ (0 : Int) < (j : Int) := by omega
            have HP := Lib.hid (show posE ltE s x L = j by rw [hpos]; obtain rfl : j = 0 := (by omega); rfl)
            clear ho hpos
            go_wp2
            (refine wp_region_quiet_below (by kernel_rfl) (by kernel_rfl) ?_; (repeat (go_big_quiet_step (fail))); refine wpQuiet_nil ?_; intro _ hw'; obtain ⟨⟨dq, osq⟩, hw''⟩ := hw'; subst hw'')
            clear gt0 gt1 gt2 hj2
            obtain ⟨w5, hw5⟩ : ∃ w5, w5 = grow (redrawn wr dq) osq := ⟨_, rfl⟩
            have O5 := Lib.hid (show OE w.heap.size w5 (.slice SA L sc) s by rw [hw5]; exact HO.out.below (below_regrown _ _ _))
            have I5 := Lib.hid (show OI w.heap.size w5 (.slice (some ⟨w.heap.size, 0, none⟩) 0 0) [] by rw [hw5]; exact HO6.out.below (below_regrown _ _ _))
            have B5 := Lib.hid (show Below w.heap.size w w5 by rw [hw5]; exact bel_regrown0 HB.out _ _)
            rw [← hw5]
            have hwz := B5.out.size
            have r0 : ∀ W, Below w5.heap.size w5 W → W.cell? ⟨b, off + k * 3, none⟩ = some (.int .i64 x.rid) := fun W hW => (G.out W (bel_step0 hW B5.out)).1
            have r1 : ∀ W, Below w5.heap.size w5 W → W.cell? ⟨b, off + k * 3 + 1, none⟩ = some (.int .i64 x.due) := fun W hW => (G.out W (bel_step0 hW B5.out)).2.1
            have r2 : ∀ W, Below w5.heap.size w5 W → W.cell? ⟨b, off + k * 3 + 2, none⟩ = some (.slice x.A x.n x.c) := fun W hW => (G.out W (bel_step0 hW B5.out)).2.2
            have HTK := Lib.hid (O5.out.re.take j)
            have HTKL := Lib.hid (show (s.take j).length = j by rw [List.length_take, HSL.out]; omega)
            have HFIN := Lib.hid (show ([] ++ s.take j ++ [x] ++ s.drop j).map El.pr = srtE ltP (lateP R day (k + 1)) by have h := HNEW.out; rw [HP.out] at h; unfold insAt at h; simpa using h)
            have hj0 : (0 : Int) ≤ (j : Int) := by omega
            have hj3 : (j : Int) ≤ (sc : Int) := by omega
            have hj4 : (L : Int) ≤ (sc : Int) := by omega
            clear HO HO6 HB hw5
            by_cases hjl : j < L
            · have hk4 : ¬ sc = j := by omega
              have hj1 : (j : Int) ≤ (L : Int) := by omega
              obtain ⟨A', c', e', _, _, hA'⟩ := own3.form O5.out
              injection e' with e1 e2 e3
              obtain ⟨gq, hgq, _, _⟩ := hA' (by rw [HSL.out]; omega)
              have hSA : SA = some ⟨gq, 0, none⟩ := e1.trans hgq
              subst hSA
              have HDRL := Lib.hid (show (s.drop j).length = L - j by rw [List.length_drop, HSL.out])
              have htl := RE.drop O5.out.re j
              rw [Nat.zero_add] at htl
              have HTL := Lib.hid htl
              clear htl e1 e2 e3 hgq hA'
              go_wp2
              go_region_held3 (fun W => Below w5.heap.size w5 W) (((repeat (first | with_reducible exact Below.refl _ _ | with_reducible exact below_regrown _ _ _ | with_reducible refine bel_step0 (by assumption) ?_ | with_reducible refine bel_alloc0 ?_ _ | with_reducible refine bel_regrown0 ?_ _ _ | with_reducible refine bel_regrown ?_ (by first | omega | (simp; done) | (simp; omega)) _ _ | with_reducible refine below_drewN ?_ _ | with_reducible refine Below.drew ?_ | with_reducible refine Below.alloc ?_ (by first | omega | (simp; done) | (simp; omega)) _ | with_reducible refine Below.setCell ?_ (by first | omega | (simp; done) | (simp; omega)) _ | with_reducible refine bel_step (by assumption) (by first | omega | (simp; done) | (simp; omega)) ?_ | with_reducible refine bel_grown (by assumption) (by first | omega | (simp; done) | (simp; omega)) (by first | omega | (simp; done) | (simp; omega)) ?_)))) (first | ((refine step_appE _ (by rfl) (.tmp 64) (.tmp 67) (by rfl) w5 _ [] _ (by rfl) (by first | exact OE.emptyAt (by simp) (by simp) | exact OE.alloc (OE.emptyAt (by simp) (by simp)) _) (by (repeat (first | with_reducible exact Below.refl _ _ | with_reducible exact below_regrown _ _ _ | with_reducible refine bel_step0 (by assumption) ?_ | with_reducible refine bel_alloc0 ?_ _ | with_reducible refine bel_regrown0 ?_ _ _ | with_reducible refine bel_regrown ?_ (by first | omega | (simp; done) | (simp; omega)) _ _ | with_reducible refine below_drewN ?_ _ | with_reducible refine Below.drew ?_ | with_reducible refine Below.alloc ?_ (by first | omega | (simp; done) | (simp; omega)) _ | with_reducible refine Below.setCell ?_ (by first | omega | (simp; done) | (simp; omega)) _ | with_reducible refine bel_step (by assumption) (by first | omega | (simp; done) | (simp; omega)) ?_ | with_reducible refine bel_grown (by assumption) (by first | omega | (simp; done) | (simp; omega)) (by first | omega | (simp; done) | (simp; omega)) ?_))) _ _ _ HTKL.out (by rfl) (HTK.out.below (by (repeat (first | with_reducible exact Below.refl _ _ | with_reducible exact below_regrown _ _ _ | with_reducible refine bel_step0 (by assumption) ?_ | with_reducible refine bel_alloc0 ?_ _ | with_reducible refine bel_regrown0 ?_ _ _ | with_reducible refine bel_regrown ?_ (by first | omega | (simp; done) | (simp; omega)) _ _ | with_reducible refine below_drewN ?_ _ | with_reducible refine Below.drew ?_ | with_reducible refine Below.alloc ?_ (by first | omega | (simp; done) | (simp; omega)) _ | with_reducible refine Below.setCell ?_ (by first | omega | (simp; done) | (simp; omega)) _ | with_reducible refine bel_step (by assumption) (by first | omega | (simp; done) | (simp; omega)) ?_ | with_reducible refine bel_grown (by assumption) (by first | omega | (simp; done) | (simp; omega)) (by first | omega | (simp; done) | (simp; omega)) ?_)))) (by simp; omega) ?_; intro v2 w2 ho2 hb2 hq2 hs2; have HQ2 := Lib.hid hq2; clear hq2)) | ((refine step_appE _ (by rfl) (.tmp 68) (.tmp 73) (by rfl) w5 _ _ [x] (by rfl) (by first | exact ho2 | exact OE.alloc ho2 _) (by (repeat (first | with_reducible exact Below.refl _ _ | with_reducible exact below_regrown _ _ _ | with_reducible refine bel_step0 (by assumption) ?_ | with_reducible refine bel_alloc0 ?_ _ | with_reducible refine bel_regrown0 ?_ _ _ | with_reducible refine bel_regrown ?_ (by first | omega | (simp; done) | (simp; omega)) _ _ | with_reducible refine below_drewN ?_ _ | with_reducible refine Below.drew ?_ | with_reducible refine Below.alloc ?_ (by first | omega | (simp; done) | (simp; omega)) _ | with_reducible refine Below.setCell ?_ (by first | omega | (simp; done) | (simp; omega)) _ | with_reducible refine bel_step (by assumption) (by first | omega | (simp; done) | (simp; omega)) ?_ | with_reducible refine bel_grown (by assumption) (by first | omega | (simp; done) | (simp; omega)) (by first | omega | (simp; done) | (simp; omega)) ?_))) _ 1 1 (by rfl) (by rfl) (by first | exact re_lit _ _ _ | exact re_kept1 HQ2.out | exact re_kept0 HQ2.out) (by rw [List.nil_append, HTKL.out]; omega) ?_; intro v3 w3 ho3 hb3 hq3 hs3; clear hq3 hs3)) | ((refine step_appE _ (by rfl) (.tmp 74) (.tmp 77) (by rfl) w5 _ _ _ (by rfl) ho3 (by (repeat (first | with_reducible exact Below.refl _ _ | with_reducible exact below_regrown _ _ _ | with_reducible refine bel_step0 (by assumption) ?_ | with_reducible refine bel_alloc0 ?_ _ | with_reducible refine bel_regrown0 ?_ _ _ | with_reducible refine bel_regrown ?_ (by first | omega | (simp; done) | (simp; omega)) _ _ | with_reducible refine below_drewN ?_ _ | with_reducible refine Below.drew ?_ | with_reducible refine Below.alloc ?_ (by first | omega | (simp; done) | (simp; omega)) _ | with_reducible refine Below.setCell ?_ (by first | omega | (simp; done) | (simp; omega)) _ | with_reducible refine bel_step (by assumption) (by first | omega | (simp; done) | (simp; omega)) ?_ | with_reducible refine bel_grown (by assumption) (by first | omega | (simp; done) | (simp; omega)) (by first | omega | (simp; done) | (simp; omega)) ?_))) _ _ _ HDRL.out (by rfl) ((HTL.out.below (by (repeat (first | with_reducible exact Below.refl _ _ | with_reducible exact below_regrown _ _ _ | with_reducible refine bel_step0 (by assumption) ?_ | with_reducible refine bel_alloc0 ?_ _ | with_reducible refine bel_regrown0 ?_ _ _ | with_reducible refine bel_regrown ?_ (by first | omega | (simp; done) | (simp; omega)) _ _ | with_reducible refine below_drewN ?_ _ | with_reducible refine Below.drew ?_ | with_reducible refine Below.alloc ?_ (by first | omega | (simp; done) | (simp; omega)) _ | with_reducible refine Below.setCell ?_ (by first | omega | (simp; done) | (simp; omega)) _ | with_reducible refine bel_step (by assumption) (by first | omega | (simp; done) | (simp; omega)) ?_ | with_reducible refine bel_grown (by assumption) (by first | omega | (simp; done) | (simp; omega)) (by first | omega | (simp; done) | (simp; omega)) ?_))))) (by rw [List.length_append, List.nil_append, HTKL.out]; simp; omega) ?_; intro v4 w4 ho4 hb4 hq4 hs4; clear hq4 hs4)))
              all_goals
                go_wp2
                go_roundw
                case rel => exact ⟨k + 1, _, by omega, by go_num, OE.mono hwz ho4, HFIN.out, I5.out.below hb4, bel_step0 hb4 B5.out⟩
                case measure => simp [intOf]; omega
            · obtain rfl : L = j := by omega
              have HDR0 := Lib.hid (show s.drop L = [] from List.drop_eq_nil_of_le (by rw [HSL.out]; exact Nat.le_refl _))
              have HDRL := Lib.hid (show (s.drop L).length = 0 by rw [HDR0.out]; rfl)
              by_cases hcn : sc = L
              · obtain rfl : L = sc := hcn.symm
                clear hcn
                go_wp2
                go_region_held3 (fun W => Below w5.heap.size w5 W) (((repeat (first | with_reducible exact Below.refl _ _ | with_reducible exact below_regrown _ _ _ | with_reducible refine bel_step0 (by assumption) ?_ | with_reducible refine bel_alloc0 ?_ _ | with_reducible refine bel_regrown0 ?_ _ _ | with_reducible refine bel_regrown ?_ (by first | omega | (simp; done) | (simp; omega)) _ _ | with_reducible refine below_drewN ?_ _ | with_reducible refine Below.drew ?_ | with_reducible refine Below.alloc ?_ (by first | omega | (simp; done) | (simp; omega)) _ | with_reducible refine Below.setCell ?_ (by first | omega | (simp; done) | (simp; omega)) _ | with_reducible refine bel_step (by assumption) (by first | omega | (simp; done) | (simp; omega)) ?_ | with_reducible refine bel_grown (by assumption) (by first | omega | (simp; done) | (simp; omega)) (by first | omega | (simp; done) | (simp; omega)) ?_)))) (first | ((refine step_appE _ (by rfl) (.tmp 64) (.tmp 67) (by rfl) w5 _ [] _ (by rfl) (by first | exact OE.emptyAt (by simp) (by simp) | exact OE.alloc (OE.emptyAt (by simp) (by simp)) _) (by (repeat (first | with_reducible exact Below.refl _ _ | with_reducible exact below_regrown _ _ _ | with_reducible refine bel_step0 (by assumption) ?_ | with_reducible refine bel_alloc0 ?_ _ | with_reducible refine bel_regrown0 ?_ _ _ | with_reducible refine bel_regrown ?_ (by first | omega | (simp; done) | (simp; omega)) _ _ | with_reducible refine below_drewN ?_ _ | with_reducible refine Below.drew ?_ | with_reducible refine Below.alloc ?_ (by first | omega | (simp; done) | (simp; omega)) _ | with_reducible refine Below.setCell ?_ (by first | omega | (simp; done) | (simp; omega)) _ | with_reducible refine bel_step (by assumption) (by first | omega | (simp; done) | (simp; omega)) ?_ | with_reducible refine bel_grown (by assumption) (by first | omega | (simp; done) | (simp; omega)) (by first | omega | (simp; done) | (simp; omega)) ?_))) _ _ _ HTKL.out (by rfl) (HTK.out.below (by (repeat (first | with_reducible exact Below.refl _ _ | with_reducible exact below_regrown _ _ _ | with_reducible refine bel_step0 (by assumption) ?_ | with_reducible refine bel_alloc0 ?_ _ | with_reducible refine bel_regrown0 ?_ _ _ | with_reducible refine bel_regrown ?_ (by first | omega | (simp; done) | (simp; omega)) _ _ | with_reducible refine below_drewN ?_ _ | with_reducible refine Below.drew ?_ | with_reducible refine Below.alloc ?_ (by first | omega | (simp; done) | (simp; omega)) _ | with_reducible refine Below.setCell ?_ (by first | omega | (simp; done) | (simp; omega)) _ | with_reducible refine bel_step (by assumption) (by first | omega | (simp; done) | (simp; omega)) ?_ | with_reducible refine bel_grown (by assumption) (by first | omega | (simp; done) | (simp; omega)) (by first | omega | (simp; done) | (simp; omega)) ?_)))) (by simp; omega) ?_; intro v2 w2 ho2 hb2 hq2 hs2; have HQ2 := Lib.hid hq2; clear hq2)) | ((refine step_appE _ (by rfl) (.tmp 68) (.tmp 73) (by rfl) w5 _ _ [x] (by rfl) (by first | exact ho2 | exact OE.alloc ho2 _) (by (repeat (first | with_reducible exact Below.refl _ _ | with_reducible exact below_regrown _ _ _ | with_reducible refine bel_step0 (by assumption) ?_ | with_reducible refine bel_alloc0 ?_ _ | with_reducible refine bel_regrown0 ?_ _ _ | with_reducible refine bel_regrown ?_ (by first | omega | (simp; done) | (simp; omega)) _ _ | with_reducible refine below_drewN ?_ _ | with_reducible refine Below.drew ?_ | with_reducible refine Below.alloc ?_ (by first | omega | (simp; done) | (simp; omega)) _ | with_reducible refine Below.setCell ?_ (by first | omega | (simp; done) | (simp; omega)) _ | with_reducible refine bel_step (by assumption) (by first | omega | (simp; done) | (simp; omega)) ?_ | with_reducible refine bel_grown (by assumption) (by first | omega | (simp; done) | (simp; omega)) (by first | omega | (simp; done) | (simp; omega)) ?_))) _ 1 1 (by rfl) (by rfl) (by first | exact re_lit _ _ _ | exact re_kept1 HQ2.out | exact re_kept0 HQ2.out) (by rw [List.nil_append, HTKL.out]; omega) ?_; intro v3 w3 ho3 hb3 hq3 hs3; clear hq3 hs3)) | ((refine step_appE _ (by rfl) (.tmp 74) (.tmp 77) (by rfl) w5 _ _ _ (by rfl) ho3 (by (repeat (first | with_reducible exact Below.refl _ _ | with_reducible exact below_regrown _ _ _ | with_reducible refine bel_step0 (by assumption) ?_ | with_reducible refine bel_alloc0 ?_ _ | with_reducible refine bel_regrown0 ?_ _ _ | with_reducible refine bel_regrown ?_ (by first | omega | (simp; done) | (simp; omega)) _ _ | with_reducible refine below_drewN ?_ _ | with_reducible refine Below.drew ?_ | with_reducible refine Below.alloc ?_ (by first | omega | (simp; done) | (simp; omega)) _ | with_reducible refine Below.setCell ?_ (by first | omega | (simp; done) | (simp; omega)) _ | with_reducible refine bel_step (by assumption) (by first | omega | (simp; done) | (simp; omega)) ?_ | with_reducible refine bel_grown (by assumption) (by first | omega | (simp; done) | (simp; omega)) (by first | omega | (simp; done) | (simp; omega)) ?_))) _ _ _ HDRL.out (by rfl) ((RE.of_nil HDR0.out)) (by rw [List.length_append, List.nil_append, HTKL.out]; simp; omega) ?_; intro v4 w4 ho4 hb4 hq4 hs4; clear hq4 hs4)))
                all_goals
                  go_wp2
                  go_roundw
                  case rel => exact ⟨k + 1, _, by omega, by go_num, OE.mono hwz ho4, HFIN.out, I5.out.below hb4, bel_step0 hb4 B5.out⟩
                  case measure => simp [intOf]; omega
              · have hex : ∃ gq, SA = some ⟨gq, 0, none⟩ := by
                  obtain ⟨xs, h1, _⟩ := O5.out
                  rcases h1.2 with ⟨e, h0⟩ | ⟨gq, cap', cur, e, _⟩
                  · injection e with _ e1 e2; rw [HSL.out] at h0; omega
                  · injection e with e1 _ _; exact ⟨gq, e1⟩
                obtain ⟨gq, hSA⟩ := hex
                subst hSA
                go_wp2
                go_region_held3 (fun W => Below w5.heap.size w5 W) (((repeat (first | with_reducible exact Below.refl _ _ | with_reducible exact below_regrown _ _ _ | with_reducible refine bel_step0 (by assumption) ?_ | with_reducible refine bel_alloc0 ?_ _ | with_reducible refine bel_regrown0 ?_ _ _ | with_reducible refine bel_regrown ?_ (by first | omega | (simp; done) | (simp; omega)) _ _ | with_reducible refine below_drewN ?_ _ | with_reducible refine Below.drew ?_ | with_reducible refine Below.alloc ?_ (by first | omega | (simp; done) | (simp; omega)) _ | with_reducible refine Below.setCell ?_ (by first | omega | (simp; done) | (simp; omega)) _ | with_reducible refine bel_step (by assumption) (by first | omega | (simp; done) | (simp; omega)) ?_ | with_reducible refine bel_grown (by assumption) (by first | omega | (simp; done) | (simp; omega)) (by first | omega | (simp; done) | (simp; omega)) ?_)))) (first | ((refine step_appE _ (by rfl) (.tmp 64) (.tmp 67) (by rfl) w5 _ [] _ (by rfl) (by first | exact OE.emptyAt (by simp) (by simp) | exact OE.alloc (OE.emptyAt (by simp) (by simp)) _) (by (repeat (first | with_reducible exact Below.refl _ _ | with_reducible exact below_regrown _ _ _ | with_reducible refine bel_step0 (by assumption) ?_ | with_reducible refine bel_alloc0 ?_ _ | with_reducible refine bel_regrown0 ?_ _ _ | with_reducible refine bel_regrown ?_ (by first | omega | (simp; done) | (simp; omega)) _ _ | with_reducible refine below_drewN ?_ _ | with_reducible refine Below.drew ?_ | with_reducible refine Below.alloc ?_ (by first | omega | (simp; done) | (simp; omega)) _ | with_reducible refine Below.setCell ?_ (by first | omega | (simp; done) | (simp; omega)) _ | with_reducible refine bel_step (by assumption) (by first | omega | (simp; done) | (simp; omega)) ?_ | with_reducible refine bel_grown (by assumption) (by first | omega | (simp; done) | (simp; omega)) (by first | omega | (simp; done) | (simp; omega)) ?_))) _ _ _ HTKL.out (by rfl) (HTK.out.below (by (repeat (first | with_reducible exact Below.refl _ _ | with_reducible exact below_regrown _ _ _ | with_reducible refine bel_step0 (by assumption) ?_ | with_reducible refine bel_alloc0 ?_ _ | with_reducible refine bel_regrown0 ?_ _ _ | with_reducible refine bel_regrown ?_ (by first | omega | (simp; done) | (simp; omega)) _ _ | with_reducible refine below_drewN ?_ _ | with_reducible refine Below.drew ?_ | with_reducible refine Below.alloc ?_ (by first | omega | (simp; done) | (simp; omega)) _ | with_reducible refine Below.setCell ?_ (by first | omega | (simp; done) | (simp; omega)) _ | with_reducible refine bel_step (by assumption) (by first | omega | (simp; done) | (simp; omega)) ?_ | with_reducible refine bel_grown (by assumption) (by first | omega | (simp; done) | (simp; omega)) (by first | omega | (simp; done) | (simp; omega)) ?_)))) (by simp; omega) ?_; intro v2 w2 ho2 hb2 hq2 hs2; have HQ2 := Lib.hid hq2; clear hq2)) | ((refine step_appE _ (by rfl) (.tmp 68) (.tmp 73) (by rfl) w5 _ _ [x] (by rfl) (by first | exact ho2 | exact OE.alloc ho2 _) (by (repeat (first | with_reducible exact Below.refl _ _ | with_reducible exact below_regrown _ _ _ | with_reducible refine bel_step0 (by assumption) ?_ | with_reducible refine bel_alloc0 ?_ _ | with_reducible refine bel_regrown0 ?_ _ _ | with_reducible refine bel_regrown ?_ (by first | omega | (simp; done) | (simp; omega)) _ _ | with_reducible refine below_drewN ?_ _ | with_reducible refine Below.drew ?_ | with_reducible refine Below.alloc ?_ (by first | omega | (simp; done) | (simp; omega)) _ | with_reducible refine Below.setCell ?_ (by first | omega | (simp; done) | (simp; omega)) _ | with_reducible refine bel_step (by assumption) (by first | omega | (simp; done) | (simp; omega)) ?_ | with_reducible refine bel_grown (by assumption) (by first | omega | (simp; done) | (simp; omega)) (by first | omega | (simp; done) | (simp; omega)) ?_))) _ 1 1 (by rfl) (by rfl) (by first | exact re_lit _ _ _ | exact re_kept1 HQ2.out | exact re_kept0 HQ2.out) (by rw [List.nil_append, HTKL.out]; omega) ?_; intro v3 w3 ho3 hb3 hq3 hs3; clear hq3 hs3)) | ((refine step_appE _ (by rfl) (.tmp 74) (.tmp 77) (by rfl) w5 _ _ _ (by rfl) ho3 (by (repeat (first | with_reducible exact Below.refl _ _ | with_reducible exact below_regrown _ _ _ | with_reducible refine bel_step0 (by assumption) ?_ | with_reducible refine bel_alloc0 ?_ _ | with_reducible refine bel_regrown0 ?_ _ _ | with_reducible refine bel_regrown ?_ (by first | omega | (simp; done) | (simp; omega)) _ _ | with_reducible refine below_drewN ?_ _ | with_reducible refine Below.drew ?_ | with_reducible refine Below.alloc ?_ (by first | omega | (simp; done) | (simp; omega)) _ | with_reducible refine Below.setCell ?_ (by first | omega | (simp; done) | (simp; omega)) _ | with_reducible refine bel_step (by assumption) (by first | omega | (simp; done) | (simp; omega)) ?_ | with_reducible refine bel_grown (by assumption) (by first | omega | (simp; done) | (simp; omega)) (by first | omega | (simp; done) | (simp; omega)) ?_))) _ _ _ HDRL.out (by rfl) ((RE.of_nil HDR0.out)) (by rw [List.length_append, List.nil_append, HTKL.out]; simp; omega) ?_; intro v4 w4 ho4 hb4 hq4 hs4; clear hq4 hs4)))
                all_goals
                  go_wp2
                  go_roundw
                  case rel => exact ⟨k + 1, _, by omega, by go_num, OE.mono hwz ho4, HFIN.out, I5.out.below hb4, bel_step0 hb4 B5.out⟩
                  case measure => simp [intOf]; omega
    · obtain rfl : k = n := by omega
      have HSL := Lib.hid hL
      have HSP := Lib.hid hsp
      have HO := Lib.hid ho
      have HO6 := Lib.hid ho6
      have HB := Lib.hid hB
      obtain ⟨SA, sc, rfl, hsc2, hsm2, _⟩ := own3.form ho
      rw [hL] at hsl hsc2 HO ⊢
      clear ho ho6 hB hsp hL hlt
      go_wp2
      go_loopw [6, 10] (fun o i wi => ∃ j : Nat, j ≤ L ∧ i = .int .i64 j ∧ OI w.heap.size wi o (lst j fun q => (atE s q).rid) ∧ OE w.heap.size wi (.slice SA L sc) s ∧ Below w.heap.size w wi) (fun _ i _ => L - (intOf i).toNat)
      case atStart => exact ⟨0, Nat.zero_le _, rfl, HO6.out, HO.out, HB.out⟩
      case round =>
        clear HO HO6 HB
        obtain ⟨j, hj, rfl, ho6, ho, hB⟩ := hrel
        by_cases hlt : j < L
        · obtain ⟨A', c', e', _, _, hA'⟩ := own3.form ho
          injection e' with e1 e2 e3
          obtain ⟨g, rfl, _, hgl⟩ := hA' (by rw [HSL.out]; omega)
          subst e1
          obtain ⟨c0, c1, c2⟩ := OE.cells ho (j := j) (by rw [HSL.out]; omega)
          obtain ⟨x, hx⟩ : ∃ x, atE s j = x := ⟨_, rfl⟩
          rw [hx] at c0 c1 c2
          have HX := Lib.hid hx
          have hj0 : (0 : Int) ≤ (j : Int) := by omega
          have hj1 : (j : Int) < (L : Int) := by omega
          have hzs := hB.size
          have hjl : (lst j fun q => (atE s q).rid).length ≤ 1099511627776 := by rw [lst_length]; omega
          have HO := Lib.hid (OE.alloc ho (.cells #[.int .i64 x.rid] 3))
          have HOA := Lib.hid (ho6.alloc (.cells #[.int .i64 x.rid] 3))
          have HB := Lib.hid (bel_alloc0 hB (.cells #[.int .i64 x.rid] 3))
          clear ho6 ho hB hA' e2 e3 hx
          go_wp2_with (at_builtin; refine wp_app1x _ rfl (.tmp 85) (.tmp 91) rfl w.heap.size _ _ rfl HOA.out wr.heap.size x.rid rfl (by simp) hjl (by simp; omega) ?_; intro v7 w7 ho7 hg7 _ _; have O7 := Lib.hid ho7; have E7 := Lib.hid (show OE w.heap.size w7 (.slice (some ⟨g, 0, none⟩) L sc) s from own3.of_block HO.out (fun q hq => hg7.block q (own3.lt HO.out q hq).2 (fun e => own_ne HO.out HOA.out hq e.symm))); have B7 := Lib.hid (HB.out.grown hg7 HB.out.size (fun q hq => (World.ownsRow.lt HOA.out q hq).1)); clear ho7 hg7)
          go_roundw
          case rel => exact ⟨j + 1, by omega, by go_num, by rw [lst_succ, HX.out]; exact O7.out, E7.out, B7.out⟩
          case measure => simp [intOf]; omega
        · obtain rfl : L = j := by omega
          have HO := Lib.hid ho6
          have HB := Lib.hid hB
          clear ho hB ho6
          go_wp2
          go_ret2
          refine ⟨_, rfl, ?_, HB.out⟩
          have e : lst L (fun q => (atE s q).rid) = (srtE ltP (lateP R day k)).map (·.1) := by
            have h1 := lst_atE s El.rid
            rw [HSL.out] at h1
            rw [← HSP.out, List.map_map]
            exact h1
          rw [← e]
          exact HO.out
end Go.Proofs.Ytcdffikambbleaa

/- What FnReviews draws besides; how it compares tables. No condition but those stated. -/
namespace Go.Proofs.Ytcdffikambbleaa
set_option linter.unusedVariables false
set_option linter.unusedSimpArgs false
open Go.RowKit Go.Sort
attribute [local go_sem ↓] Go.wp_at_zero Go.wp_at_succ
theorem LS.cell {B m : Nat} {w W : World} {A : Option Addr} {n cap : Nat} {R : Nat → Rl} (h : LS B m w W (.slice A n cap) n R) {j : Nat} (hj : j < n) : ∃ g, A = some ⟨g, 0, none⟩ ∧ W.cell? ⟨g, j * 3, none⟩ = some (.int .i64 (R j).rid) := by
  obtain ⟨S, h1, _⟩ := h.lr
  obtain ⟨A', c', e, _, _, hA⟩ := h1.form
  injection e with e1 e2 e3
  obtain ⟨g, rfl, _, _⟩ := hA (by omega)
  subst e1 e3
  refine ⟨g, rfl, ?_⟩
  have := h1.cell (i := j * 3) (by omega)
  rw [show j * 3 / 3 = j by omega, show j * 3 % 3 = 0 by omega] at this
  exact this
set_option maxHeartbeats 2000000 in
theorem C_DrawCastVote (v : Value) (n : Nat) (w : World) (h : SU w v n) :
    Calls Try.prog 63 #[v] w fun e w' => ∃ (u : Value) (m : Nat) (R : Nat → Rl) (r x : Int), e = .returned (.tuple #[u, .int .i64 r, .int .i64 x]) ∧ m ≤ 11 ∧ RRs w' u m (fun j => (R j).rv) ∧ Below w.heap.size w w' := by
  obtain ⟨A, cap, rfl⟩ := h.form
  obtain ⟨B, hB⟩ : ∃ B, B = w.heap.size := ⟨_, rfl⟩
  obtain ⟨w1, hw1⟩ : ∃ w1, w1 = w.alloc (.cells #[.slice A n cap, .int .i64 0, .int .u64 0] 91) := ⟨_, rfl⟩
  have b1 : Below w.heap.size w w1 := by rw [hw1]; (repeat (first | with_reducible exact Below.refl _ _ | with_reducible exact below_regrown _ _ _ | with_reducible refine bel_step0 (by assumption) ?_ | with_reducible refine bel_alloc0 ?_ _ | with_reducible refine bel_regrown0 ?_ _ _ | with_reducible refine bel_regrown ?_ (by first | omega | (simp; done) | (simp; omega)) _ _ | with_reducible refine below_drewN ?_ _ | with_reducible refine Below.drew ?_ | with_reducible refine Below.alloc ?_ (by first | omega | (simp; done) | (simp; omega)) _ | with_reducible refine Below.setCell ?_ (by first | omega | (simp; done) | (simp; omega)) _ | with_reducible refine bel_step (by assumption) (by first | omega | (simp; done) | (simp; omega)) ?_ | with_reducible refine bel_grown (by assumption) (by first | omega | (simp; done) | (simp; omega)) (by first | omega | (simp; done) | (simp; omega)) ?_))
  have cu1 : Cu w1 B 0 := by rw [hw1, hB]; exact Cu.start h _
  have HW := Lib.hid hw1.symm
  have HB := Lib.hid hB.symm
  have hBw : w.heap.size ≤ B := by omega
  clear hw1 hB h
  go_enter Try.func63, Try.ntmps63
  go_wp2_with fail
  rw [HW.out, HB.out]
  refine (C_reviews B 0 w1 cu1 (by omega)).mono ?_; rintro e w2 ⟨u, m, R, rfl, hm, hS⟩
  obtain ⟨UA, uc, rfl⟩ := hS.form
  have HS := Lib.hid hS
  clear hS HW HB cu1
  go_wp2_with fail
  refine (C_amongL B _ _ 3 3 _ w2 _ (by rfl) HS.out.cu (by omega) (by omega) (by decide) (by omega) anyI (by rfl)).mono ?_; rintro e w3 ⟨y, rfl, _, cu3, hb3⟩
  have S3 := Lib.hid (HS.out.step (Chg.of_grown hb3) cu3)
  clear cu3 hb3 HS
  by_cases hm0 : 0 < m
  · have hm2 : (0 : Int) < (m : Int) := by omega
    go_wp2_with fail
    refine (C_one B _ 8 _ S3.out.cu (by omega) (by omega) (by omega)).mono ?_; rintro e w4 ⟨bb, rfl, cu4, hb4⟩
    have S4 := Lib.hid (S3.out.step (Chg.of_grown hb4) cu4)
    clear cu4 hb4 S3
    cases bb
    · go_wp2_with fail
      refine (C_pick B _ m _ S4.out.cu (by omega) (by omega) (by omega)).mono ?_; rintro e w5 ⟨r, rfl, ⟨hr0, hr1⟩, cu5, hb5⟩
      have S5 := Lib.hid (S4.out.step (Chg.of_grown hb5) cu5)
      clear cu5 hb5 S4
      obtain ⟨r, rfl⟩ : ∃ q : Nat, r = (q : Int) := ⟨r.toNat, by omega⟩
      obtain ⟨g0, rfl, hcell⟩ := LS.cell S5.out (j := r) (by omega)
      obtain ⟨rid, hrid⟩ : ∃ z, (R r).rid = z := ⟨_, rfl⟩
      rw [hrid] at hcell
      have HX := Lib.hid hrid
      clear hrid
      go_wp2_with fail
      clear hcell
      obtain ⟨g, hg⟩ : ∃ g, g = (w5).heap.size := ⟨_, rfl⟩
      obtain ⟨w7, hw7⟩ : ∃ w7, w7 = (w5).alloc (.cells #[.int .i64 1, .int .i64 2, .int .i64 3, .int .i64 0, .int .i64 4] 3) := ⟨_, rfl⟩
      have rg : w7.rowIs g 3 5 (fun j => (#[Value.int .i64 1, .int .i64 2, .int .i64 3, .int .i64 0, .int .i64 4] : Array Value).getD j undef) := by rw [hw7, hg]; exact row_lit (w5) _ _
      have S7 := Lib.hid (show LS B _ w1 w7 (.slice (some (⟨g0, 0, none⟩ : Addr)) m uc) m R by rw [hw7]; exact (S5.out).alloc _)
      have hlt7 := (S5.out).cu.lt
      have hgB : g ≠ B := by omega
      have RG := Lib.hid rg
      have HG := Lib.hid hg.symm
      have HW7 := Lib.hid hw7.symm
      clear rg hg hw7 hlt7
      rw [HG.out, HW7.out]
      clear HG HW7
      refine (C_pick B _ 24 w7 S7.out.cu (by omega) (by omega) (by omega)).mono ?_; rintro e w8 ⟨a, rfl, ⟨ha0, ha1⟩, cu8, hb8⟩
      have S8 := Lib.hid (S7.out.step (Chg.of_grown hb8) cu8)
      have R8 := Lib.hid (RG.out.of_block (hb8.block g RG.out.lt (by intro e; injection e with e; exact hgB e)))
      clear cu8 hb8 RG S7
      obtain ⟨q, hq⟩ : ∃ q : Nat, (q : Int) = a / 11 := ⟨(a / 11).toNat, by omega⟩
      have hq2 : q ≤ 2 := by omega
      have hd1 : (0 : Int) ≤ 3 + a / 11 := by omega
      have hd2 : 3 + a / 11 ≤ 5 := by omega
      have hd3 : (3 + a / 11).toNat = 3 + q := by omega
      go_wp2_with fail
      refine (C_amongR B _ #[.int .i64 1, .int .i64 2, .int .i64 3, .int .i64 0, .int .i64 4] (3 + q) _ g w8 3 R8.out hgB S8.out.cu (by omega) (by omega) (by simp; omega) (by omega) anyI (by rfl)).mono ?_; rintro e w9 ⟨d, rfl, hd, cu9, hb9⟩
      have S9 := Lib.hid (S8.out.step (Chg.of_grown hb9) cu9)
      clear cu9 hb9 S8 R8 hd1 hd2 hd3 hq
      go_wp2_with fail
      go_ret3
      exact ⟨_, m, R, _, d, rfl, hm, S9.out.lr.rrs, bel_chg S9.out.ch hBw b1⟩
    · go_wp2_with fail
      obtain ⟨g, hg⟩ : ∃ g, g = (w4).heap.size := ⟨_, rfl⟩
      obtain ⟨w7, hw7⟩ : ∃ w7, w7 = (w4).alloc (.cells #[.int .i64 1, .int .i64 2, .int .i64 3, .int .i64 0, .int .i64 4] 3) := ⟨_, rfl⟩
      have rg : w7.rowIs g 3 5 (fun j => (#[Value.int .i64 1, .int .i64 2, .int .i64 3, .int .i64 0, .int .i64 4] : Array Value).getD j undef) := by rw [hw7, hg]; exact row_lit (w4) _ _
      have S7 := Lib.hid (show LS B _ w1 w7 (.slice UA m uc) m R by rw [hw7]; exact (S4.out).alloc _)
      have hlt7 := (S4.out).cu.lt
      have hgB : g ≠ B := by omega
      have RG := Lib.hid rg
      have HG := Lib.hid hg.symm
      have HW7 := Lib.hid hw7.symm
      clear rg hg hw7 hlt7
      rw [HG.out, HW7.out]
      clear HG HW7
      refine (C_pick B _ 24 w7 S7.out.cu (by omega) (by omega) (by omega)).mono ?_; rintro e w8 ⟨a, rfl, ⟨ha0, ha1⟩, cu8, hb8⟩
      have S8 := Lib.hid (S7.out.step (Chg.of_grown hb8) cu8)
      have R8 := Lib.hid (RG.out.of_block (hb8.block g RG.out.lt (by intro e; injection e with e; exact hgB e)))
      clear cu8 hb8 RG S7
      obtain ⟨q, hq⟩ : ∃ q : Nat, (q : Int) = a / 11 := ⟨(a / 11).toNat, by omega⟩
      have hq2 : q ≤ 2 := by omega
      have hd1 : (0 : Int) ≤ 3 + a / 11 := by omega
      have hd2 : 3 + a / 11 ≤ 5 := by omega
      have hd3 : (3 + a / 11).toNat = 3 + q := by omega
      go_wp2_with fail
      refine (C_amongR B _ #[.int .i64 1, .int .i64 2, .int .i64 3, .int .i64 0, .int .i64 4] (3 + q) _ g w8 3 R8.out hgB S8.out.cu (by omega) (by omega) (by simp; omega) (by omega) anyI (by rfl)).mono ?_; rintro e w9 ⟨d, rfl, hd, cu9, hb9⟩
      have S9 := Lib.hid (S8.out.step (Chg.of_grown hb9) cu9)
      clear cu9 hb9 S8 R8 hd1 hd2 hd3 hq
      go_wp2_with fail
      go_ret3
      exact ⟨_, m, R, _, d, rfl, hm, S9.out.lr.rrs, bel_chg S9.out.ch hBw b1⟩
  · have hm2 : ¬ (0 : Int) < (m : Int) := by omega
    go_wp2_with fail
    obtain ⟨g, hg⟩ : ∃ g, g = (w3).heap.size := ⟨_, rfl⟩
    obtain ⟨w7, hw7⟩ : ∃ w7, w7 = (w3).alloc (.cells #[.int .i64 1, .int .i64 2, .int .i64 3, .int .i64 0, .int .i64 4] 3) := ⟨_, rfl⟩
    have rg : w7.rowIs g 3 5 (fun j => (#[Value.int .i64 1, .int .i64 2, .int .i64 3, .int .i64 0, .int .i64 4] : Array Value).getD j undef) := by rw [hw7, hg]; exact row_lit (w3) _ _
    have S7 := Lib.hid (show LS B _ w1 w7 (.slice UA m uc) m R by rw [hw7]; exact (S3.out).alloc _)
    have hlt7 := (S3.out).cu.lt
    have hgB : g ≠ B := by omega
    have RG := Lib.hid rg
    have HG := Lib.hid hg.symm
    have HW7 := Lib.hid hw7.symm
    clear rg hg hw7 hlt7
    rw [HG.out, HW7.out]
    clear HG HW7
    refine (C_pick B _ 24 w7 S7.out.cu (by omega) (by omega) (by omega)).mono ?_; rintro e w8 ⟨a, rfl, ⟨ha0, ha1⟩, cu8, hb8⟩
    have S8 := Lib.hid (S7.out.step (Chg.of_grown hb8) cu8)
    have R8 := Lib.hid (RG.out.of_block (hb8.block g RG.out.lt (by intro e; injection e with e; exact hgB e)))
    clear cu8 hb8 RG S7
    obtain ⟨q, hq⟩ : ∃ q : Nat, (q : Int) = a / 11 := ⟨(a / 11).toNat, by omega⟩
    have hq2 : q ≤ 2 := by omega
    have hd1 : (0 : Int) ≤ 3 + a / 11 := by omega
    have hd2 : 3 + a / 11 ≤ 5 := by omega
    have hd3 : (3 + a / 11).toNat = 3 + q := by omega
    go_wp2_with fail
    refine (C_amongR B _ #[.int .i64 1, .int .i64 2, .int .i64 3, .int .i64 0, .int .i64 4] (3 + q) _ g w8 3 R8.out hgB S8.out.cu (by omega) (by omega) (by simp; omega) (by omega) anyI (by rfl)).mono ?_; rintro e w9 ⟨d, rfl, hd, cu9, hb9⟩
    have S9 := Lib.hid (S8.out.step (Chg.of_grown hb9) cu9)
    clear cu9 hb9 S8 R8 hd1 hd2 hd3 hq
    go_wp2_with fail
    go_ret3
    exact ⟨_, m, R, _, d, rfl, hm, S9.out.lr.rrs, bel_chg S9.out.ch hBw b1⟩
theorem six_q {a : Int} (h0 : 0 ≤ a) (h1 : a < 24) : ∃ q : Nat, a.tdiv 11 = (q : Int) ∧ q ≤ 2 ∧ IntKind.i64.wrap (q : Int) = (q : Int) ∧ IntKind.i64.wrap (6 + (q : Int)) = 6 + (q : Int) ∧ (0 : Int) ≤ 6 + (q : Int) ∧ 6 + (q : Int) ≤ 8 ∧ (6 + (q : Int)).toNat = 6 + q := by
  have e : a.tdiv 11 = a / 11 := Int.tdiv_eq_ediv_of_nonneg h0
  refine ⟨(a / 11).toNat, by rw [e]; omega, by omega, by rw [IntKind.wrap_i64]; omega, by rw [IntKind.wrap_i64]; omega, by omega, by omega, by omega⟩
theorem row_litD (w : World) (cs : Array Value) (T : TypeId) : (w.alloc (.cells cs T)).drew.rowIs w.heap.size T cs.size (fun j => cs.getD j undef) := row_lit w cs T
theorem row_pickE {G : Prop} {w w' : World} {B : Nat} {cs : Array Value} {T : TypeId} (hb : (w.alloc (.cells cs T)).drew.grownBy w' (some B)) (hn : w.heap.size ≠ B) (h : w'.rowIs w.heap.size T cs.size (fun j => cs.getD j undef) → G) : G :=
  h ((row_lit w cs T).of_block (hb.block w.heap.size (by simp) (by intro h; injection h with h; exact hn h)))
/-- What the drawing of a review and a number keeps. -/
structure RC (B m g0 gx : Nat) (w W : World) (rid due : Int) (v : Value) : Prop where
  cu : Cu W B m
  be : Below w.heap.size w W
  r0 : W.rowIs g0 27 3 (c3v 0 0 (.slice none 0 0))
  rx : W.rowIs gx 27 3 (c3v rid due v)
  hw : w.heap.size ≤ g0
  h0 : g0 < B
  hx : B < gx
theorem RC.step {B m m' g0 gx : Nat} {w W W' : World} {rid due : Int} {v : Value} (h : RC B m g0 gx w W rid due v) (hc : Chg B (B + 1) W W') (hcu : Cu W' B m') : RC B m' g0 gx w W' rid due v :=
  ⟨hcu, bel_chg hc (by have := h.hw; have := h.h0; omega) h.be, row_chg h.r0 hc (.inl h.h0), row_chg h.rx hc (.inr h.hx), h.hw, h.h0, h.hx⟩
theorem RC.cells {B m g0 gx : Nat} {w W : World} {rid due : Int} {v : Value} (h : RC B m g0 gx w W rid due v) :
    W.cell? ⟨gx, 0, none⟩ = some (.int .i64 rid) ∧ W.cell? ⟨gx, 1, none⟩ = some (.int .i64 due) ∧ W.cell? ⟨gx, 2, none⟩ = some v ∧
    W.cell? ⟨g0, 0, none⟩ = some (.int .i64 0) ∧ W.cell? ⟨g0, 1, none⟩ = some (.int .i64 0) ∧ W.cell? ⟨g0, 2, none⟩ = some (.slice none 0 0) ∧ W.frozen? ⟨g0, 0, none⟩ = false ∧ W.frozen? ⟨g0, 1, none⟩ = false ∧ W.frozen? ⟨g0, 2, none⟩ = false :=
  ⟨h.rx.cell (i := 0) (by omega), h.rx.cell (i := 1) (by omega), h.rx.cell (i := 2) (by omega), h.r0.cell (i := 0) (by omega), h.r0.cell (i := 1) (by omega), h.r0.cell (i := 2) (by omega), h.r0.frozen 0, h.r0.frozen 1, h.r0.frozen 2⟩
set_option maxHeartbeats 4000000 in
theorem C_DrawCouldBecome (v : Value) (n : Nat) (w : World) (h : SU w v n) :
    Calls Try.prog 66 #[v] w fun e w' => ∃ (x : Rl) (u : Value) (m : Int), e = .returned (.tuple #[.agg #[.int .i64 x.rid, .int .i64 x.due, u], .int .i64 m]) ∧ OI w.heap.size w' u x.vs ∧ x.vs.length ≤ 7 ∧ Below w.heap.size w w' := by
  obtain ⟨A, cap, rfl⟩ := h.form
  obtain ⟨g0, hg0⟩ : ∃ g, g = w.heap.size := ⟨_, rfl⟩
  obtain ⟨w0, hw0⟩ : ∃ w0, w0 = w.alloc (.cells #[.int .i64 0, .int .i64 0, .slice none 0 0] 27) := ⟨_, rfl⟩
  obtain ⟨B, hB⟩ : ∃ B, B = g0 + 1 := ⟨_, rfl⟩
  obtain ⟨w1, hw1⟩ : ∃ w1, w1 = w0.alloc (.cells #[.slice A n cap, .int .i64 0, .int .u64 0] 91) := ⟨_, rfl⟩
  have b0 : Below w.heap.size w w0 := by rw [hw0]; (repeat (first | with_reducible exact Below.refl _ _ | with_reducible exact below_regrown _ _ _ | with_reducible refine bel_step0 (by assumption) ?_ | with_reducible refine bel_alloc0 ?_ _ | with_reducible refine bel_regrown0 ?_ _ _ | with_reducible refine bel_regrown ?_ (by first | omega | (simp; done) | (simp; omega)) _ _ | with_reducible refine below_drewN ?_ _ | with_reducible refine Below.drew ?_ | with_reducible refine Below.alloc ?_ (by first | omega | (simp; done) | (simp; omega)) _ | with_reducible refine Below.setCell ?_ (by first | omega | (simp; done) | (simp; omega)) _ | with_reducible refine bel_step (by assumption) (by first | omega | (simp; done) | (simp; omega)) ?_ | with_reducible refine bel_grown (by assumption) (by first | omega | (simp; done) | (simp; omega)) (by first | omega | (simp; done) | (simp; omega)) ?_))
  have z0 : w0.heap.size = B := by rw [hw0, hB, hg0]; simp
  have b1 : Below w.heap.size w w1 := by rw [hw1]; exact bel_alloc0 b0 _
  have cu1 : Cu w1 B 0 := by rw [hw1, ← z0]; exact Cu.start (h.below b0) _
  have r1 : w1.rowIs g0 27 3 (c3v 0 0 (.slice none 0 0)) := by rw [hw1, hw0, hg0]; exact row_alloc (row3_alloc w _ 0 0 _) _
  have HW := Lib.hid (show (w.alloc (.cells #[.int .i64 0, .int .i64 0, .slice none 0 0] 27)).alloc (.cells #[.slice A n cap, .int .i64 0, .int .u64 0] 91) = w1 by rw [hw1, hw0])
  have hz1B : B + 1 ≤ w1.heap.size := by rw [hw1, World.size_alloc, z0]; exact Nat.le_refl _
  have HB := Lib.hid (And.intro hg0.symm hB.symm)
  have HR := Lib.hid r1
  have hBw : g0 < B := by omega
  have hgw : w.heap.size ≤ g0 := by omega
  clear hw1 hw0 hB h z0 b0 r1 hg0
  go_enter Try.func66, Try.ntmps66
  go_wp2_with fail
  rw [HW.out, HB.out.1, HB.out.2]
  refine (C_review B 0 _ w1 cu1 (by omega)).mono ?_; rintro e w2 ⟨x, u, rfl, hou, hxl, cu2, hb2⟩
  obtain ⟨rid, due, vs⟩ := x
  simp only at hxl hou
  obtain ⟨UA, uc, rfl⟩ := hou.form
  obtain ⟨w3, hw3⟩ : ∃ w3, w3 = w2.alloc (.cells #[.int .i64 rid, .int .i64 due, .slice UA vs.length uc] 27) := ⟨_, rfl⟩
  obtain ⟨gx, hgx⟩ : ∃ g, g = w2.heap.size := ⟨_, rfl⟩
  have hc2 := Chg.of_grown hb2
  have hl2 := cu2.lt
  have hz1 := b1.size
  have R3 : RC B 20 g0 gx w w3 rid due (.slice UA vs.length uc) := by
    rw [hw3]
    exact ⟨cu2.alloc _, bel_alloc0 (bel_chg hc2 (by omega) b1) _, row_alloc (row_chg HR.out hc2 (.inl hBw)) _, by rw [hgx]; exact row3_alloc w2 _ _ _ _, hgw, hBw, by omega⟩
  have R3 := Lib.hid R3
  have hgr := HR.out.lt
  have O3 := Lib.hid (show OI (B + 1) w3 (.slice UA vs.length uc) vs by rw [hw3]; exact OI.mono hz1B (hou.alloc _))
  have HW3 := Lib.hid hw3.symm
  have HG3 := Lib.hid hgx.symm
  clear hb2 cu1 HR b1 HW HB hw3 hgx hc2 hl2 hz1 cu2 hou hgr
  go_upto_region 3 with fail
  rw [HW3.out, HG3.out]
  clear HW3 HG3
  have hR := R3.out
  obtain ⟨x0, x1, x2, y0, y1, y2, e0, e1, e2⟩ := RC.cells hR; have hgl := (RC.rx hR).lt; have hg0l := (RC.r0 hR).lt
  have hne : g0 ≠ gx := by have := hR.h0; have := hR.hx; omega
  have hne' := hne.symm
  clear hR
  have hB3 : w3.heap.size ≠ B := by have := R3.out.cu.lt; omega
  go_region_held3 (fun W => W.cell? ⟨gx, 0, none⟩ = some (.int .i64 rid) ∧ W.cell? ⟨gx, 1, none⟩ = some (.int .i64 due) ∧ W.cell? ⟨gx, 2, none⟩ = some (.slice UA vs.length uc)) (go_keep)
    (first | (go_at_call 98; refine (C_pick B 20 24 _ (by first | exact R3.out.cu | exact R3.out.cu.drew | exact (R3.out.cu.alloc _).drew | exact R3.out.cu.drew.alloc _) (by omega) (by omega) (by omega)).mono ?_; rintro e w4 ⟨a, rfl, ⟨ha0, ha1⟩, cu4, hb4⟩; have hq4 : Chg B (B + 1) w3 w4 := Chg.trans (by (repeat (first | with_reducible assumption | with_reducible exact Chg.refl _ _ _ | with_reducible refine Chg.drew ?_ | with_reducible refine Chg.alloc ?_ _ | with_reducible refine Chg.setNew ?_ (by first | omega | (simp; done) | (simp; omega)) _))) (Chg.of_grown hb4); have R4 := RC.step R3.out hq4 cu4; have hB4 : w4.heap.size ≠ B := (by have := R4.cu.lt; omega); clear x0 x1 x2 y0 y1 y2 e0 e1 e2 hgl hg0l; obtain ⟨x0, x1, x2, y0, y1, y2, e0, e1, e2⟩ := RC.cells R4; have hgl := (RC.rx R4).lt; have hg0l := (RC.r0 R4).lt; obtain ⟨q, hq, hqq, hw1, hw2, hw3, hw4, hw5⟩ := six_q ha0 ha1; (first | refine row_pickE hb4 hB3 (fun hrw => ?_) | skip)) |
      (go_at_call 97; refine (C_amongR B 21 #[.int .i64 0, .int .i64 0, .int .i64 1, .int .i64 2, .int .i64 3, .int .i64 5, .int .i64 (-1), .int .i64 6] _ _ _ _ 3 (by first | exact hrw | exact row_lit _ _ _ | exact row_litD _ _ _) (by first | exact hB3 | exact hB4) (by first | exact R4.cu | exact R4.cu.drew | exact (R4.cu.alloc _).drew | exact R4.cu.alloc _) (by omega) (by omega) (by simp; omega) (by omega) anyI (by rfl)).mono ?_; rintro e w6 ⟨d, rfl, hd, cu6, hb6⟩; have hq6 : Chg B (B + 1) w4 w6 := Chg.trans (by (repeat (first | with_reducible assumption | with_reducible exact Chg.refl _ _ _ | with_reducible refine Chg.drew ?_ | with_reducible refine Chg.alloc ?_ _ | with_reducible refine Chg.setNew ?_ (by first | omega | (simp; done) | (simp; omega)) _))) (Chg.of_grown hb6); have R6 := RC.step R4 hq6 cu6; clear x0 x1 x2 y0 y1 y2 e0 e1 e2 hgl hg0l; obtain ⟨x0, x1, x2, y0, y1, y2, e0, e1, e2⟩ := RC.cells R6; have hgl := (RC.rx R6).lt; have hg0l := (RC.r0 R6).lt))
  all_goals
    go_wp2_with fail
    go_light
    refine bodyPost_ret (by simp (maxDischargeDepth := 3) [results, Try.results66, go_sem, *]; try rfl) rfl ?_
    refine ⟨⟨rid, due, vs⟩, _, _, rfl, ?_, hxl, ?_⟩
    · have h6 := (O3.out.chg (hq4.trans hq6) (Nat.le_refl _))
      exact OI.mono (base := B + 1) (by omega) (((h6.setFar (p := ⟨g0, 0, none⟩) (Nat.lt_succ_of_lt hBw) _).setFar (p := ⟨g0, 1, none⟩) (Nat.lt_succ_of_lt hBw) _).setFar (p := ⟨g0, 2, none⟩) (Nat.lt_succ_of_lt hBw) _)
    · have h6 := R6.be
      (repeat (first | with_reducible assumption | with_reducible refine Below.drew ?_ | with_reducible refine bel_alloc0 ?_ _ | with_reducible refine Below.setCell ?_ (by first | omega | (simp; done) | (simp; omega)) _))
end Go.Proofs.Ytcdffikambbleaa

/- Facts on reviews that FnReviews asks for. No condition but those stated. -/
namespace Go.Proofs.Ytcdffikambbleaa
set_option linter.unusedVariables false
set_option linter.unusedSimpArgs false
theorem okRs_one {n : Nat} {R : Nat → Rv} (h : okRs n R = true) : ∀ j, j < n → (R j).ok = true := by
  have hg : allB n (goodB R) = true := by unfold okRs at h; simp only [Bool.and_eq_true] at h; exact h.1
  intro j hj
  have := allB_iff.1 hg j hj
  unfold goodB at this
  simp only [Bool.and_eq_true] at this
  exact this.1
theorem couldM_one {vs : List Int} {x : Int} (h1 : 1 ≤ x) (h3 : x ≤ 3) : verdict (vs ++ [x]).length (ai (vs ++ [x])) ∈ couldM 1 vs := by
  show _ ∈ once (accM (couldM 0) vs 3)
  rw [once_mem]
  simp only [accM, couldM, List.mem_append, List.mem_singleton, List.nil_append]
  have : x = 1 ∨ x = 2 ∨ x = 3 := by omega
  rcases this with rfl | rfl | rfl
  · exact .inl (.inl rfl)
  · exact .inl (.inr rfl)
  · exact .inr rfl
/-- A verdict after a vote is one that could become. -/
theorem cast_fact {n i : Nat} {R : Nat → Rv} {r x : Int} (h : castOk n R r x = true) (hi : i < n) (he : (castR R r x i).rid = r) :
    (castR R r x i).rv.ok = true ∧ cbOk (R i) 1 = true ∧ anyB (cbL (R i) 1).length (fun j => ai (cbL (R i) 1) j == verdictOf (castR R r x i).rv) = true := by
  simp only [castOk, Bool.and_eq_true] at h
  obtain ⟨⟨h1, _⟩, h3⟩ := h
  have hok := okRs_one h3 i hi
  have hR := okRs_one h1 i hi
  have hhit : ((R i).rid == r) = true := by
    unfold castR at he
    split at he
    · assumption
    · rename_i hn
      have : (R i).rid = r := he
      simp [this] at hn
  have hc : castR R r x i = ⟨(R i).rid, (R i).due, lst (R i).n (R i).f ++ [x]⟩ := by unfold castR; rw [if_pos hhit]
  have hrv : (castR R r x i).rv = ⟨(R i).rid, (R i).due, (lst (R i).n (R i).f ++ [x]).length, ai (lst (R i).n (R i).f ++ [x])⟩ := by rw [hc]; rfl
  have hlen : (lst (R i).n (R i).f ++ [x]).length = (R i).n + 1 := by rw [List.length_append, lst_length]; rfl
  have hok2 : Rv.ok ⟨(R i).rid, (R i).due, (lst (R i).n (R i).f ++ [x]).length, ai (lst (R i).n (R i).f ++ [x])⟩ = true := by rw [← hrv]; exact hok
  unfold Rv.ok at hok2
  simp only [Bool.and_eq_true, decide_eq_true_eq] at hok2
  obtain ⟨⟨_, h5⟩, h6⟩ := hok2
  have hx := allB_iff.1 h6 (R i).n (by omega)
  have hai : ai (lst (R i).n (R i).f ++ [x]) (R i).n = x := by
    unfold ai
    rw [List.getD_eq_getElem?_getD, List.getElem?_append_right (by rw [lst_length]; exact Nat.le_refl _), lst_length, Nat.sub_self]; rfl
  rw [hai] at hx
  obtain ⟨x1, x3⟩ := within_iff.1 hx
  have hcb : cbOk (R i) 1 = true := by
    unfold cbOk
    rw [hR, Bool.true_and, within_iff]
    omega
  refine ⟨hok, hcb, ?_⟩
  have hv : verdictOf (castR R r x i).rv = verdict (lst (R i).n (R i).f ++ [x]).length (ai (lst (R i).n (R i).f ++ [x])) := by
    unfold verdictOf; rw [hok, if_pos rfl, hrv]
  have hl : cbL (R i) 1 = couldM 1 (lst (R i).n (R i).f) := by unfold cbL; rw [hcb]; rfl
  rw [hl, hv, anyB_mem]
  exact couldM_one x1 x3
theorem mem_insAt {α : Type} {l : List α} {k : Nat} {x y : α} : y ∈ insAt l k x ↔ y = x ∨ y ∈ l := by
  unfold insAt
  rw [List.mem_append, List.mem_cons]
  constructor
  · rintro (h | h | h)
    · exact .inr (List.mem_of_mem_take h)
    · exact .inl h
    · exact .inr (List.mem_of_mem_drop h)
  · rintro (h | h)
    · exact .inr (.inl h)
    · rw [← List.take_append_drop k l, List.mem_append] at h
      rcases h with h | h
      · exact .inl h
      · exact .inr (.inr h)
theorem mem_srtE {α : Type} [Inhabited α] (lt : α → α → Bool) (l : List α) (y : α) : y ∈ srtE lt l ↔ y ∈ l := by
  have key : ∀ (l s : List α), y ∈ l.foldl (insE lt) s ↔ y ∈ s ∨ y ∈ l := by
    intro l
    induction l with
    | nil => intro s; simp
    | cons x l ih =>
      intro s
      rw [List.foldl_cons, ih, insE, mem_insAt, List.mem_cons]
      constructor
      · rintro ((h | h) | h)
        · exact .inr (.inl h)
        · exact .inl h
        · exact .inr (.inr h)
      · rintro (h | h | h)
        · exact .inl (.inr h)
        · exact .inl (.inl h)
        · exact .inr h
  rw [srtE, key]; simp
theorem mem_lateP {R : Nat → Rv} {day : Int} {p : Int × Int} : ∀ k, p ∈ lateP R day k → p.1 ∈ decl R 0 k := by
  intro k
  induction k with
  | zero => intro h; cases h
  | succ k ih =>
    intro h
    simp only [lateP, decl, List.mem_append] at h ⊢
    rcases h with h | h
    · exact .inl (ih h)
    · refine .inr ?_
      cases hl : lateB (R k) day
      · rw [hl] at h; simp at h
      · rw [hl] at h
        simp only [if_true, List.mem_singleton] at h
        subst h
        have hv : (verdict (R k).n (R k).f == 0) = true := by
          rw [verdict_zero]
          unfold lateB at hl
          simp only [Bool.and_eq_true] at hl
          exact hl.2
        rw [hv]; simp
/-- Late reviews have no verdict. -/
theorem late_fact {n j : Nat} {R : Nat → Rv} {day : Int} (hj : j < (late n R day).length) : okD n R 0 = true ∧ anyB (decided n R 0).length (fun q => ai (decided n R 0) q == ai (late n R day) j) = true := by
  have hm : ai (late n R day) j ∈ late n R day := List.mem_of_getElem? (ai_lt hj)
  rw [anyB_mem]
  unfold late at hm
  cases hl : lateOk n R day
  · rw [hl] at hm; simp at hm
  · rw [hl, if_pos rfl] at hm
    unfold lateOk at hl
    rw [Bool.and_eq_true] at hl
    have ho : okD n R 0 = true := by have := okD_in (m := n) (R := R) (k := 0) (by omega); exact this.trans hl.1
    refine ⟨ho, ?_⟩
    have hd : decided n R 0 = decl R 0 n := by unfold decided; rw [ho]; rfl
    rw [hd]
    obtain ⟨p, hp, e⟩ := List.mem_map.1 hm
    rw [mem_srtE] at hp
    have := mem_lateP n hp
    rw [e] at this
    have hl2 : late n R day = (srtE ltP (lateP R day n)).map (·.1) := by unfold late lateOk; rw [hl.1, hl.2]; rfl
    rw [hl2]
    exact this
theorem late_le (n : Nat) (R : Nat → Rv) (day : Int) : (late n R day).length ≤ 10 := by
  unfold late
  split
  · rename_i h
    unfold lateOk at h
    rw [Bool.and_eq_true] at h
    have := okRs_le h.1
    have := lateP_le R day n
    rw [List.length_map, srtE_len]
    omega
  · simp
/-- How many rows begin with r. -/
def cntR (r : Int) (rows : List (List Int)) : Nat := (rows.filter fun row => ai row 0 == r).length
theorem cntR_app (r : Int) (a b : List (List Int)) : cntR r (a ++ b) = cntR r a + cntR r b := by simp [cntR, List.filter_append]
theorem cntR_le (r : Int) (a : List (List Int)) : cntR r a ≤ a.length := List.length_filter_le _ _
theorem cntR_inR (x : Rv) (r : Int) (m : Nat) : cntR r (inR x m) = if x.rid = r then (inR x m).length else 0 := by
  induction m with
  | zero => simp [inR, cntR]
  | succ m ih =>
    simp only [inR, cntR_app, ih, List.length_append]
    by_cases e : x.rid = r
    · simp only [if_pos e]
      split
      · have : cntR r [[x.rid, (m : Int)]] = 1 := by unfold cntR; have : (ai [x.rid, (m : Int)] 0 == r) = true := by rw [← e]; exact beq_self_eq_true _
                                                     simp [this]
        rw [this]; rfl
      · rfl
    · simp only [if_neg e]
      split
      · have : cntR r [[x.rid, (m : Int)]] = 0 := by unfold cntR; have : (ai [x.rid, (m : Int)] 0 == r) = false := by
                                                       show (x.rid == r) = false
                                                       simpa using e
                                                     simp [this]
        rw [this]
      · rfl
theorem inR_three {x : Rv} (h : x.n = 3) : (inR x 3).length = 3 := by
  have key : ∀ j, decB x j = true := fun j => by
    unfold decB
    rw [h]
    have h1 : verdict (3 - 1) (dropAt x.f j) = 0 := by unfold verdict; rw [if_pos (by decide)]
    have h2 : verdict 3 x.f ≠ 0 := by
      unfold verdict
      rw [if_neg (by decide)]
      split
      · decide
      · split <;> decide
    rw [h1]
    simpa using (fun e => h2 e.symm)
  simp only [inR, key, if_true, List.nil_append, List.length_append, List.length_singleton]
/-- Each review of three votes has three deciders. -/
theorem decide_fact {n i : Nat} {R : Nat → Rv} (h : okRs n R = true) (hi : i < n) (h3 : (R i).n = 3) : cntR (R i).rid (outR R n) = 3 := by
  have key : ∀ m, m ≤ n → cntR (R i).rid (outR R m) = if i < m then 3 else 0 := by
    intro m
    induction m with
    | zero => intro _; simp [outR, cntR]
    | succ m ih =>
      intro hm
      simp only [outR, cntR_app, ih (by omega), cntR_inR]
      by_cases e : m = i
      · subst e
        rw [if_neg (by omega), if_pos rfl, if_pos (by omega), h3, inR_three h3]
      · have hne : ¬ (R m).rid = (R i).rid := by
          intro he
          rcases Nat.lt_or_gt_of_ne e with h4 | h4
          · have := okRs_lt h m i h4 hi; omega
          · have := okRs_lt h i m h4 (by omega); omega
        rw [if_neg hne]
        by_cases h5 : i < m
        · rw [if_pos h5, if_pos (by omega)]
        · rw [if_neg h5, if_neg (by omega)]
  rw [key n (Nat.le_refl _), if_pos hi]
theorem outR_two (R : Nat → Rv) (k : Nat) : ∀ row ∈ outR R k, row.length = 2 := by
  have h1 : ∀ (x : Rv) (m : Nat), ∀ row ∈ inR x m, row.length = 2 := by
    intro x m
    induction m with
    | zero => intro row h; cases h
    | succ m ih =>
      intro row h
      simp only [inR, List.mem_append] at h
      rcases h with h | h
      · exact ih row h
      · split at h
        · rw [List.mem_singleton.1 h]; rfl
        · cases h
  induction k with
  | zero => intro row h; cases h
  | succ k ih =>
    intro row h
    simp only [outR, List.mem_append] at h
    rcases h with h | h
    · exact ih row h
    · exact h1 _ _ row h
theorem at_mem {rows : List (List Int)} {j : Nat} (h : j < rows.length) : at_ rows j ∈ rows := by
  unfold at_
  rw [List.getD_eq_getElem?_getD, List.getElem?_eq_getElem h]
  exact List.getElem_mem _
theorem take_at {rows : List (List Int)} {j : Nat} (h : j < rows.length) : rows.take (j + 1) = rows.take j ++ [at_ rows j] := by
  rw [List.take_succ_eq_append_getElem h]
  unfold at_
  rw [List.getD_eq_getElem?_getD, List.getElem?_eq_getElem h]; rfl
theorem cntR_step {rows : List (List Int)} {j : Nat} {r : Int} (h : j < rows.length) : cntR r (rows.take (j + 1)) = cntR r (rows.take j) + (if (ai (at_ rows j) 0 == r) = true then 1 else 0) := by
  rw [take_at h, cntR_app]
  congr 1
  unfold cntR
  cases e : (ai (at_ rows j) 0 == r) <;> simp [List.filter, e]
end Go.Proofs.Ytcdffikambbleaa
