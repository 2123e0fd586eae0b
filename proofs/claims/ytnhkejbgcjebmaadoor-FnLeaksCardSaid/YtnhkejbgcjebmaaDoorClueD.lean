/- Candidates: counts, the told clue. No condition but those stated. -/
import Derived.Test.YtnhkejbgcjebmaaDoorClueC
import Derived.Test.YtnhkejbgcjebmaaDoorTxtD
namespace Go.Proofs.YtnhkejbgcjebmaaDoor
set_option linter.unusedVariables false
set_option linter.unusedSimpArgs false
open Go.RowKit Go.Sort
/-- How many of the first n; which ones. -/
def cntB (n : Nat) (p : Nat → Bool) : Nat := ((List.range n).filter p).length
theorem cntB_zero (p : Nat → Bool) : cntB 0 p = 0 := rfl
theorem cntB_yes {n : Nat} {p : Nat → Bool} (h : p n = true) : cntB (n + 1) p = cntB n p + 1 := by
  unfold cntB; rw [List.range_succ, List.filter_append]; simp [h]
theorem cntB_no {n : Nat} {p : Nat → Bool} (h : p n = false) : cntB (n + 1) p = cntB n p := by
  unfold cntB; rw [List.range_succ, List.filter_append]; simp [h]
theorem cntB_le (n : Nat) (p : Nat → Bool) : cntB n p ≤ n := by
  unfold cntB; exact Nat.le_trans (List.length_filter_le _ _) (by simp)
def pickT (n : Nat) (f : Nat → ByteArray) (p : Nat → Bool) : List ByteArray := ((List.range n).filter p).map f
theorem pickT_length (n : Nat) (f : Nat → ByteArray) (p : Nat → Bool) : (pickT n f p).length = cntB n p := by simp [pickT, cntB]
theorem pickT_yes {n : Nat} {f : Nat → ByteArray} {p : Nat → Bool} (h : p n = true) : pickT (n + 1) f p = pickT n f p ++ [f n] := by
  unfold pickT; rw [List.range_succ, List.filter_append]; simp [h]
theorem pickT_no {n : Nat} {f : Nat → ByteArray} {p : Nat → Bool} (h : p n = false) : pickT (n + 1) f p = pickT n f p := by
  unfold pickT; rw [List.range_succ, List.filter_append]; simp [h]
/-- A kept element stands at its count. -/
theorem atT_append_left {xs ys : List ByteArray} {j : Nat} (h : j < xs.length) : atT (xs ++ ys) j = atT xs j := by
  unfold atT; rw [List.getD_eq_getElem?_getD, List.getD_eq_getElem?_getD, List.getElem?_append_left h]
theorem pickT_prefix (n m : Nat) (f : Nat → ByteArray) (p : Nat → Bool) (h : n ≤ m) : ∃ ys, pickT m f p = pickT n f p ++ ys := by
  induction m with
  | zero => have : n = 0 := by omega
            subst this; exact ⟨[], by simp⟩
  | succ m ih =>
    by_cases e : n = m + 1
    · subst e; exact ⟨[], by simp⟩
    · obtain ⟨ys, hy⟩ := ih (by omega)
      cases hp : p m with
      | true => exact ⟨ys ++ [f m], by rw [pickT_yes hp, hy, List.append_assoc]⟩
      | false => exact ⟨ys, by rw [pickT_no hp, hy]⟩
theorem atT_pick {n m : Nat} {f : Nat → ByteArray} {p : Nat → Bool} (hm : n < m) (h : p n = true) : atT (pickT m f p) (cntB n p) = f n := by
  obtain ⟨ys, hy⟩ := pickT_prefix (n + 1) m f p hm
  rw [hy, atT_append_left (by rw [pickT_length, cntB_yes h]; omega), pickT_yes h]
  unfold atT
  rw [List.getD_eq_getElem?_getD, List.getElem?_append_right (by rw [pickT_length]; exact Nat.le_refl _), pickT_length, Nat.sub_self]
  rfl
theorem cntB_all {k : Nat} {p : Nat → Bool} (h : ∀ j, j < k → p j = true) : cntB k p = k := by
  induction k with
  | zero => rfl
  | succ k ih => rw [cntB_yes (h k (by omega)), ih (fun j hj => h j (by omega))]
theorem pickT_all {k : Nat} {f : Nat → ByteArray} {p : Nat → Bool} (h : ∀ j, j < k → p j = true) : pickT k f p = lstT k f := by
  induction k with
  | zero => rfl
  | succ k ih => rw [pickT_yes (h k (by omega)), ih (fun j hj => h j (by omega))]; simp [lstT, List.range_succ]

theorem C_l20Count (v : Value) (n : Nat) (f : Nat → ByteArray) (a b : Int) (s t : ByteArray) (w : World) (h : TI w v n f) (hn : n ≤ 1048576) (hw : ∀ j, j < n → wordB (f j) = true) :
    Calls Tryd.prog 65 #[v, .agg #[.int .i64 a, .int .i64 b, .string s, .string t]] w fun e w' => e = .returned (.int .i64 (cntB n fun j => fitB a b s t (f j))) ∧ Below w.heap.size w w' := by
  obtain ⟨A, cap, rfl, hr, hc, hm⟩ := h
  have HR := Lib.hid hr; clear hr
  have HW := Lib.hid hw; clear hw
  obtain ⟨p, hp⟩ : ∃ p : Nat → Bool, (fun j => fitB a b s t (f j)) = p := ⟨_, rfl⟩
  rw [hp]
  have HP := Lib.hid (fun j => congrFun hp j)
  clear hp
  go_enter Tryd.func65, Tryd.ntmps65
  go_wp2
  go_loopw [5, 6] (fun q i wr => ∃ k : Nat, k ≤ n ∧ i = .int .i64 k ∧ q = .int .i64 (cntB k p) ∧ Below w.heap.size w wr ∧ w.heap.size < wr.heap.size ∧ wr.cell? ⟨w.heap.size, 0, none⟩ = some (.int .i64 a) ∧ wr.cell? ⟨w.heap.size, 1, none⟩ = some (.int .i64 b) ∧ wr.cell? ⟨w.heap.size, 2, none⟩ = some (.string s) ∧ wr.cell? ⟨w.heap.size, 3, none⟩ = some (.string t)) (fun _ i _ => n - (intOf i).toNat)
  case atStart => exact ⟨0, Nat.zero_le _, rfl, rfl, by (repeat (first | with_reducible exact Below.refl _ _ | with_reducible exact below_regrown _ _ _ | with_reducible refine bel_step0 (by assumption) ?_ | with_reducible refine bel_alloc0 ?_ _ | with_reducible refine bel_regrown0 ?_ _ _ | with_reducible refine bel_regrown ?_ (by first | omega | (simp; done) | (simp; omega)) _ _ | with_reducible refine below_drewN ?_ _ | with_reducible refine Below.drew ?_ | with_reducible refine Below.alloc ?_ (by first | omega | (simp; done) | (simp; omega)) _ | with_reducible refine Below.setCell ?_ (by first | omega | (simp; done) | (simp; omega)) _ | with_reducible refine bel_step (by assumption) (by first | omega | (simp; done) | (simp; omega)) ?_ | with_reducible refine bel_grown (by assumption) (by first | omega | (simp; done) | (simp; omega)) (by first | omega | (simp; done) | (simp; omega)) ?_)), by simp, by simp, by simp, by simp, by simp⟩
  case round =>
    obtain ⟨k, hk, rfl, rfl, hB, hz, q0, q1, q2, q3⟩ := hrel
    by_cases hlt : k < n
    · obtain ⟨bb, off, rfl, hb, hcell⟩ := (HR.out.below hB) (by omega)
      have hck := cell_regrown (hcell k hlt)
      have g0 := cell_regrown q0
      have g1 := cell_regrown q1
      have g2 := cell_regrown q2
      have g3 := cell_regrown q3
      have hcl := cntB_le k p
      have hn0 : (k : Int) < (n : Int) := by omega
      have hpk : fitB a b s t (f k) = p k := HP.out k
      have HE : ∀ d os, Calls Tryd.prog 70 #[.string (f k), .agg #[.int .i64 a, .int .i64 b, .string s, .string t]] (grow (redrawn wr d) os) fun e w'' => e = .returned (.bool (p k)) ∧ ∃ p : Regrown, w'' = grow (redrawn wr p.d) p.os :=
        fun d os => Calls.regrown_of ((C_l20Can a b s t (f k) _ (HW.out k hlt)).mono fun e w' hh => ⟨hh.1.trans (by rw [hpk]), hh.2⟩)
      have HQ := Lib.hid (And.intro q0 (And.intro q1 (And.intro q2 q3)))
      clear hcell hpk q0 q1 q2 q3
      cases hok : p k
      all_goals
        simp only [hok] at HE
        go_wp2
        (refine wp_region_quiet_below (by kernel_rfl) (by kernel_rfl) ?_; (repeat (go_big_quiet_step (exact HE _ _))); refine wpQuiet_nil ?_; intro _ hw'; obtain ⟨⟨dq, osq⟩, hw''⟩ := hw'; subst hw'')
        go_wp2
      · go_roundw
        case rel => exact ⟨k + 1, by omega, by go_num, by rw [cntB_no hok], by (repeat (first | with_reducible exact Below.refl _ _ | with_reducible exact below_regrown _ _ _ | with_reducible refine bel_step0 (by assumption) ?_ | with_reducible refine bel_alloc0 ?_ _ | with_reducible refine bel_regrown0 ?_ _ _ | with_reducible refine bel_regrown ?_ (by first | omega | (simp; done) | (simp; omega)) _ _ | with_reducible refine below_drewN ?_ _ | with_reducible refine Below.drew ?_ | with_reducible refine Below.alloc ?_ (by first | omega | (simp; done) | (simp; omega)) _ | with_reducible refine Below.setCell ?_ (by first | omega | (simp; done) | (simp; omega)) _ | with_reducible refine bel_step (by assumption) (by first | omega | (simp; done) | (simp; omega)) ?_ | with_reducible refine bel_grown (by assumption) (by first | omega | (simp; done) | (simp; omega)) (by first | omega | (simp; done) | (simp; omega)) ?_)), by simp [Go.Sort.grow, redrawn]; omega, g0 _ _, g1 _ _, g2 _ _, g3 _ _⟩
        case measure => simp [intOf]; omega
      · go_roundw
        case rel => exact ⟨k + 1, by omega, by go_num, by rw [cntB_yes hok]; go_num, by (repeat (first | with_reducible exact Below.refl _ _ | with_reducible exact below_regrown _ _ _ | with_reducible refine bel_step0 (by assumption) ?_ | with_reducible refine bel_alloc0 ?_ _ | with_reducible refine bel_regrown0 ?_ _ _ | with_reducible refine bel_regrown ?_ (by first | omega | (simp; done) | (simp; omega)) _ _ | with_reducible refine below_drewN ?_ _ | with_reducible refine Below.drew ?_ | with_reducible refine Below.alloc ?_ (by first | omega | (simp; done) | (simp; omega)) _ | with_reducible refine Below.setCell ?_ (by first | omega | (simp; done) | (simp; omega)) _ | with_reducible refine bel_step (by assumption) (by first | omega | (simp; done) | (simp; omega)) ?_ | with_reducible refine bel_grown (by assumption) (by first | omega | (simp; done) | (simp; omega)) (by first | omega | (simp; done) | (simp; omega)) ?_)), by simp [Go.Sort.grow, redrawn]; omega, g0 _ _, g1 _ _, g2 _ _, g3 _ _⟩
        case measure => simp [intOf]; omega
    · obtain rfl : k = n := by omega
      go_wp2
      go_ret
      exact ⟨rfl, hB⟩
theorem C_clueTo (x : ByteArray) (u v : Bool) (w : World) (hx : wordB x = true) :
    Calls Tryd.prog 69 #[.string x, .bool u, .bool v] w fun e w' => e = .returned (.agg #[.int .i64 (if u then x.size else 0), .int .i64 (if v then fstI x else 0), .string ByteArray.empty, .string ByteArray.empty]) ∧ Below w.heap.size w w' := by
  have hz := (wordB_size hx).2
  cases u <;> cases v
  all_goals
    go_enter Tryd.func69, Tryd.ntmps69
    go_wp2_with (go_at_call 88; refine (C_firstOf _ _ hx).mono ?_; rintro e w' ⟨rfl, hw⟩; rw [hw]; clear hw)
    (go_light; refine bodyPost_ret (by simp (maxDischargeDepth := 3) [results, Tryd.results69, go_sem, *]; try rfl) rfl ?_)
    exact ⟨rfl, by (repeat (first | with_reducible exact Below.refl _ _ | with_reducible exact below_regrown _ _ _ | with_reducible refine bel_step0 (by assumption) ?_ | with_reducible refine bel_alloc0 ?_ _ | with_reducible refine bel_regrown0 ?_ _ _ | with_reducible refine bel_regrown ?_ (by first | omega | (simp; done) | (simp; omega)) _ _ | with_reducible refine below_drewN ?_ _ | with_reducible refine Below.drew ?_ | with_reducible refine Below.alloc ?_ (by first | omega | (simp; done) | (simp; omega)) _ | with_reducible refine Below.setCell ?_ (by first | omega | (simp; done) | (simp; omega)) _ | with_reducible refine bel_step (by assumption) (by first | omega | (simp; done) | (simp; omega)) ?_ | with_reducible refine bel_grown (by assumption) (by first | omega | (simp; done) | (simp; omega)) (by first | omega | (simp; done) | (simp; omega)) ?_))⟩
theorem C_l20Told (x : ByteArray) (u v : Bool) (w : World) (hx : wordB x = true) :
    Calls Tryd.prog 68 #[.string x, .bool u, .bool v] w fun e w' => e = .returned (.agg #[.int .i64 (if u then x.size else 0), .int .i64 (if v then fstI x else 0), .string ByteArray.empty, .string ByteArray.empty]) ∧ Below w.heap.size w w' := by
  have hz := (wordB_size hx).2
  cases u <;> cases v
  all_goals
    go_enter Tryd.func68, Tryd.ntmps68
    go_wp2_with (go_at_call 87; refine (C_l20First _ _ hx).mono ?_; rintro e w' ⟨rfl, hw⟩; rw [hw]; clear hw)
    (go_light; refine bodyPost_ret (by simp (maxDischargeDepth := 3) [results, Tryd.results68, go_sem, *]; try rfl) rfl ?_)
    exact ⟨rfl, by (repeat (first | with_reducible exact Below.refl _ _ | with_reducible exact below_regrown _ _ _ | with_reducible refine bel_step0 (by assumption) ?_ | with_reducible refine bel_alloc0 ?_ _ | with_reducible refine bel_regrown0 ?_ _ _ | with_reducible refine bel_regrown ?_ (by first | omega | (simp; done) | (simp; omega)) _ _ | with_reducible refine below_drewN ?_ _ | with_reducible refine Below.drew ?_ | with_reducible refine Below.alloc ?_ (by first | omega | (simp; done) | (simp; omega)) _ | with_reducible refine Below.setCell ?_ (by first | omega | (simp; done) | (simp; omega)) _ | with_reducible refine bel_step (by assumption) (by first | omega | (simp; done) | (simp; omega)) ?_ | with_reducible refine bel_grown (by assumption) (by first | omega | (simp; done) | (simp; omega)) (by first | omega | (simp; done) | (simp; omega)) ?_))⟩
theorem C_l1Least (a b : Int) (w : World) :
    Calls Tryd.prog 67 #[.int .i64 a, .int .i64 b] w fun e w' => e = .returned (.int .i64 (min a b)) ∧ w = w' := by
  go_enter Tryd.func67, Tryd.ntmps67
  go_wp2
  all_goals (go_ret; exact ⟨ret_int (by omega), rfl⟩)
theorem C_isLeast (k : Int) (w : World) :
    Calls Tryd.prog 62 #[.int .i64 k] w fun e w' => e = .returned (.bool (within k 1 12)) ∧ w = w' := by
  go_enter Tryd.func62, Tryd.ntmps62
  go_wp2_with (go_at_call 57; refine (C_within _ _ _ _).mono ?_; rintro e w' ⟨rfl, rfl⟩)
  go_ret
  exact ⟨rfl, rfl⟩
theorem C_l20K (v : Value) (n : Nat) (f : Nat → ByteArray) (k : Int) (w : World) (h : TI w v n f) (hs : ∀ j, j < n → (f j).size ≤ 9223372036854775807) :
    Calls Tryd.prog 61 #[v, .int .i64 k] w fun e w' => e = .returned (.bool (dictB n f && within k 1 12)) ∧ Below w.heap.size w w' := by
  obtain ⟨A, cap, rfl, hr, hc, hm⟩ := id h
  cases hok : dictB n f
  all_goals
    go_enter Tryd.func61, Tryd.ntmps61
    go_wp2_with (first | (go_at_call 60; refine (C_l20Good _ _ _ _ h hs).mono ?_; rintro e w' ⟨rfl, hb'⟩; rw [hok]) | (go_at_call 54; refine (C_l1In _ _ _ _).mono ?_; rintro e w' ⟨rfl, rfl⟩))
    go_ret
    exact ⟨rfl, by (repeat (first | with_reducible exact Below.refl _ _ | with_reducible exact below_regrown _ _ _ | with_reducible refine bel_step0 (by assumption) ?_ | with_reducible refine bel_alloc0 ?_ _ | with_reducible refine bel_regrown0 ?_ _ _ | with_reducible refine bel_regrown ?_ (by first | omega | (simp; done) | (simp; omega)) _ _ | with_reducible refine below_drewN ?_ _ | with_reducible refine Below.drew ?_ | with_reducible refine Below.alloc ?_ (by first | omega | (simp; done) | (simp; omega)) _ | with_reducible refine Below.setCell ?_ (by first | omega | (simp; done) | (simp; omega)) _ | with_reducible refine bel_step (by assumption) (by first | omega | (simp; done) | (simp; omega)) ?_ | with_reducible refine bel_grown (by assumption) (by first | omega | (simp; done) | (simp; omega)) (by first | omega | (simp; done) | (simp; omega)) ?_))⟩
end Go.Proofs.YtnhkejbgcjebmaaDoor
