/- Clues: single words and clues. No condition but those stated. -/
import Derived.Test.YtnhkejbgcjebmaaDoorTxtC
namespace Go.Proofs.YtnhkejbgcjebmaaDoor
set_option linter.unusedVariables false
set_option linter.unusedSimpArgs false
open Go.RowKit Go.Sort


structure Cl where
  len : Int
  fst : Int
  aft : ByteArray
  bef : ByteArray
def okC (a b : Int) (s t : ByteArray) : Bool := within a 0 10 && within b 0 26 && (s.toList.isEmpty || wordB s) && (t.toList.isEmpty || wordB t)
theorem C_toClue (a b : Int) (s t : ByteArray) (w : World) :
    Calls Tryd.prog 19 #[.agg #[.int .i64 a, .int .i64 b, .string s, .string t]] w fun e w' => e = .returned (.agg #[.int .i64 a, .int .i64 b, .string s, .string t]) ∧ Below w.heap.size w w' := by
  go_enter Tryd.func19, Tryd.ntmps19
  go_wp2
  (go_light; refine bodyPost_ret (by simp (maxDischargeDepth := 3) [results, Tryd.results19, go_sem, *]; try rfl) rfl ?_)
  refine ⟨rfl, ?_⟩
  (repeat (first | with_reducible exact Below.refl _ _ | with_reducible exact below_regrown _ _ _ | with_reducible refine bel_step0 (by assumption) ?_ | with_reducible refine bel_alloc0 ?_ _ | with_reducible refine bel_regrown0 ?_ _ _ | with_reducible refine bel_regrown ?_ (by first | omega | (simp; done) | (simp; omega)) _ _ | with_reducible refine below_drewN ?_ _ | with_reducible refine Below.drew ?_ | with_reducible refine Below.alloc ?_ (by first | omega | (simp; done) | (simp; omega)) _ | with_reducible refine Below.setCell ?_ (by first | omega | (simp; done) | (simp; omega)) _ | with_reducible refine bel_step (by assumption) (by first | omega | (simp; done) | (simp; omega)) ?_ | with_reducible refine bel_grown (by assumption) (by first | omega | (simp; done) | (simp; omega)) (by first | omega | (simp; done) | (simp; omega)) ?_))

def szC (left : Int) (s t : ByteArray) : Int := if left - s.size < 0 then -1 else if left - s.size - t.size < 0 then -1 else left - s.size - t.size
theorem szC_small {left : Int} {s t : ByteArray} (h : 0 ≤ szC left s t) : (s.size : Int) ≤ left ∧ (t.size : Int) ≤ left := by
  unfold szC at h
  split at h
  · omega
  · split at h <;> omega
theorem C_szClue (a b : Int) (s t : ByteArray) (left : Int) (w : World) (hs : s.size ≤ 9223372036854775807) (ht : t.size ≤ 9223372036854775807) (h0 : 0 ≤ left) (h1 : left ≤ 1048576) :
    Calls Tryd.prog 17 #[.agg #[.int .i64 a, .int .i64 b, .string s, .string t], .int .i64 left] w fun e w' => e = .returned (.int .i64 (szC left s t)) ∧ Below w.heap.size w w' := by
  by_cases g1 : left - s.size < 0
  · go_enter Tryd.func17, Tryd.ntmps17
    go_wp2
    go_ret
    exact ⟨ret_int (by unfold szC; rw [if_pos (by omega)]), by (repeat (first | with_reducible exact Below.refl _ _ | with_reducible exact below_regrown _ _ _ | with_reducible refine bel_step0 (by assumption) ?_ | with_reducible refine bel_alloc0 ?_ _ | with_reducible refine bel_regrown0 ?_ _ _ | with_reducible refine bel_regrown ?_ (by first | omega | (simp; done) | (simp; omega)) _ _ | with_reducible refine below_drewN ?_ _ | with_reducible refine Below.drew ?_ | with_reducible refine Below.alloc ?_ (by first | omega | (simp; done) | (simp; omega)) _ | with_reducible refine Below.setCell ?_ (by first | omega | (simp; done) | (simp; omega)) _ | with_reducible refine bel_step (by assumption) (by first | omega | (simp; done) | (simp; omega)) ?_ | with_reducible refine bel_grown (by assumption) (by first | omega | (simp; done) | (simp; omega)) (by first | omega | (simp; done) | (simp; omega)) ?_))⟩
  · by_cases g2 : left - s.size - t.size < 0
    · go_enter Tryd.func17, Tryd.ntmps17
      go_wp2
      go_ret
      exact ⟨ret_int (by unfold szC; rw [if_neg (by omega), if_pos (by omega)]), by (repeat (first | with_reducible exact Below.refl _ _ | with_reducible exact below_regrown _ _ _ | with_reducible refine bel_step0 (by assumption) ?_ | with_reducible refine bel_alloc0 ?_ _ | with_reducible refine bel_regrown0 ?_ _ _ | with_reducible refine bel_regrown ?_ (by first | omega | (simp; done) | (simp; omega)) _ _ | with_reducible refine below_drewN ?_ _ | with_reducible refine Below.drew ?_ | with_reducible refine Below.alloc ?_ (by first | omega | (simp; done) | (simp; omega)) _ | with_reducible refine Below.setCell ?_ (by first | omega | (simp; done) | (simp; omega)) _ | with_reducible refine bel_step (by assumption) (by first | omega | (simp; done) | (simp; omega)) ?_ | with_reducible refine bel_grown (by assumption) (by first | omega | (simp; done) | (simp; omega)) (by first | omega | (simp; done) | (simp; omega)) ?_))⟩
    · go_enter Tryd.func17, Tryd.ntmps17
      go_wp2
      go_ret
      exact ⟨ret_int (by unfold szC; rw [if_neg (by omega), if_neg (by omega)]), by (repeat (first | with_reducible exact Below.refl _ _ | with_reducible exact below_regrown _ _ _ | with_reducible refine bel_step0 (by assumption) ?_ | with_reducible refine bel_alloc0 ?_ _ | with_reducible refine bel_regrown0 ?_ _ _ | with_reducible refine bel_regrown ?_ (by first | omega | (simp; done) | (simp; omega)) _ _ | with_reducible refine below_drewN ?_ _ | with_reducible refine Below.drew ?_ | with_reducible refine Below.alloc ?_ (by first | omega | (simp; done) | (simp; omega)) _ | with_reducible refine Below.setCell ?_ (by first | omega | (simp; done) | (simp; omega)) _ | with_reducible refine bel_step (by assumption) (by first | omega | (simp; done) | (simp; omega)) ?_ | with_reducible refine bel_grown (by assumption) (by first | omega | (simp; done) | (simp; omega)) (by first | omega | (simp; done) | (simp; omega)) ?_))⟩
theorem C_eqClue (a b : Int) (s t : ByteArray) (w : World) :
    Calls Tryd.prog 23 #[.agg #[.int .i64 a, .int .i64 b, .string s, .string t], .agg #[.int .i64 a, .int .i64 b, .string s, .string t]] w fun e w' => e = .returned (.bool true) ∧ Below w.heap.size w w' := by
  go_enter Tryd.func23, Tryd.ntmps23
  go_wp2
  all_goals (first | go_ret | go_ret2 | go_ret3)
  all_goals exact ⟨rfl, by (repeat (first | with_reducible exact Below.refl _ _ | with_reducible exact below_regrown _ _ _ | with_reducible refine bel_step0 (by assumption) ?_ | with_reducible refine bel_alloc0 ?_ _ | with_reducible refine bel_regrown0 ?_ _ _ | with_reducible refine bel_regrown ?_ (by first | omega | (simp; done) | (simp; omega)) _ _ | with_reducible refine below_drewN ?_ _ | with_reducible refine Below.drew ?_ | with_reducible refine Below.alloc ?_ (by first | omega | (simp; done) | (simp; omega)) _ | with_reducible refine Below.setCell ?_ (by first | omega | (simp; done) | (simp; omega)) _ | with_reducible refine bel_step (by assumption) (by first | omega | (simp; done) | (simp; omega)) ?_ | with_reducible refine bel_grown (by assumption) (by first | omega | (simp; done) | (simp; omega)) (by first | omega | (simp; done) | (simp; omega)) ?_))⟩
set_option maxHeartbeats 1000000 in
theorem C_IsClue (a b : Int) (s t : ByteArray) (w : World) (hs : s.size ≤ 9223372036854775807) (ht : t.size ≤ 9223372036854775807) :
    Calls Tryd.prog 20 #[.agg #[.int .i64 a, .int .i64 b, .string s, .string t]] w fun e w' => e = .returned (.bool (okC a b s t)) ∧ Below w.heap.size w w' := by
  go_enter Tryd.func20, Tryd.ntmps20
  go_wp2_with (first | (go_at_call 57; refine (C_within _ _ _ _).mono ?_; rintro e w' ⟨rfl, rfl⟩) | (go_at_call 56; refine (C_isWord _ _ (by assumption)).mono ?_; rintro e w' ⟨rfl, hb'⟩; obtain ⟨hc', hf'⟩ := bcell hb'; (try simp only [World.size_drew] at hc' hf'); have hz' := bsize hb'; (try simp at hz'); have ht' := (by first | exact lt_le5 hz' | exact lt_le4 hz' | exact lt_le3 hz' | exact lt_le2 hz' | exact lt_le1 hz' | exact lt_le0 hz' : ∀ n, n < _ → n < w'.heap.size); (first | (obtain ⟨hs1, hs2, hs3, hs4, hs5⟩ := sz5 hz') | (obtain ⟨hs1, hs2, hs3, hs4⟩ := sz4 hz') | (obtain ⟨hs1, hs2, hs3⟩ := sz3 hz') | (obtain ⟨hs1, hs2⟩ := sz2 hz') | (have hs1 := sz1 hz') | skip); (try have hq0 : w.heap.size < w'.heap.size := by omega); (try have hq1 : w.heap.size + 1 < w'.heap.size := by omega); (try have hq2 : w.heap.size + 1 + 1 < w'.heap.size := by omega); (try have hq3 : w.heap.size + 1 + 1 + 1 < w'.heap.size := by omega)))
  all_goals (go_ret; refine ⟨ret_bool ?_, by (repeat (first | with_reducible exact Below.refl _ _ | with_reducible exact below_regrown _ _ _ | with_reducible refine bel_step0 (by assumption) ?_ | with_reducible refine bel_alloc0 ?_ _ | with_reducible refine bel_regrown0 ?_ _ _ | with_reducible refine bel_regrown ?_ (by first | omega | (simp; done) | (simp; omega)) _ _ | with_reducible refine below_drewN ?_ _ | with_reducible refine Below.drew ?_ | with_reducible refine Below.alloc ?_ (by first | omega | (simp; done) | (simp; omega)) _ | with_reducible refine Below.setCell ?_ (by first | omega | (simp; done) | (simp; omega)) _ | with_reducible refine bel_step (by assumption) (by first | omega | (simp; done) | (simp; omega)) ?_ | with_reducible refine bel_grown (by assumption) (by first | omega | (simp; done) | (simp; omega)) (by first | omega | (simp; done) | (simp; omega)) ?_))⟩; simp_all [okC]; done)
set_option maxHeartbeats 1000000 in
theorem C_l20Clue (a b : Int) (s t : ByteArray) (w : World) (hs : s.size ≤ 9223372036854775807) (ht : t.size ≤ 9223372036854775807) :
    Calls Tryd.prog 59 #[.agg #[.int .i64 a, .int .i64 b, .string s, .string t]] w fun e w' => e = .returned (.bool (okC a b s t)) ∧ Below w.heap.size w w' := by
  go_enter Tryd.func59, Tryd.ntmps59
  go_wp2_with (first | (go_at_call 54; refine (C_l1In _ _ _ _).mono ?_; rintro e w' ⟨rfl, rfl⟩) | (go_at_call 53; refine (C_l2Word _ _ (by assumption)).mono ?_; rintro e w' ⟨rfl, rfl⟩))
  all_goals (go_ret; refine ⟨ret_bool ?_, by (repeat (first | with_reducible exact Below.refl _ _ | with_reducible exact below_regrown _ _ _ | with_reducible refine bel_step0 (by assumption) ?_ | with_reducible refine bel_alloc0 ?_ _ | with_reducible refine bel_regrown0 ?_ _ _ | with_reducible refine bel_regrown ?_ (by first | omega | (simp; done) | (simp; omega)) _ _ | with_reducible refine below_drewN ?_ _ | with_reducible refine Below.drew ?_ | with_reducible refine Below.alloc ?_ (by first | omega | (simp; done) | (simp; omega)) _ | with_reducible refine Below.setCell ?_ (by first | omega | (simp; done) | (simp; omega)) _ | with_reducible refine bel_step (by assumption) (by first | omega | (simp; done) | (simp; omega)) ?_ | with_reducible refine bel_grown (by assumption) (by first | omega | (simp; done) | (simp; omega)) (by first | omega | (simp; done) | (simp; omega)) ?_))⟩; simp_all [okC]; done)

theorem C_IsClueS (a b : Int) (s t : ByteArray) (w : World) (hs : s.size ≤ 9223372036854775807) (ht : t.size ≤ 9223372036854775807) :
    Calls Tryd.prog 18 #[.agg #[.int .i64 a, .int .i64 b, .string s, .string t]] w fun e w' => e = .returned (.bool (okC a b s t)) ∧ Below w.heap.size w w' := by
  go_enter Tryd.func18, Tryd.ntmps18
  go_wp2_with (go_at_call 59; refine (C_l20Clue _ _ _ _ _ (by assumption) (by assumption)).mono ?_; rintro e w' ⟨rfl, hb'⟩; obtain ⟨hc', hf'⟩ := bcell hb'; (try simp only [World.size_drew] at hc' hf'); have hz' := bsize hb'; (try simp at hz'); have ht' := (by first | exact lt_le5 hz' | exact lt_le4 hz' | exact lt_le3 hz' | exact lt_le2 hz' | exact lt_le1 hz' | exact lt_le0 hz' : ∀ n, n < _ → n < w'.heap.size); (first | (obtain ⟨hs1, hs2, hs3, hs4, hs5⟩ := sz5 hz') | (obtain ⟨hs1, hs2, hs3, hs4⟩ := sz4 hz') | (obtain ⟨hs1, hs2, hs3⟩ := sz3 hz') | (obtain ⟨hs1, hs2⟩ := sz2 hz') | (have hs1 := sz1 hz') | skip); (try have hq0 : w.heap.size < w'.heap.size := by omega); (try have hq1 : w.heap.size + 1 < w'.heap.size := by omega); (try have hq2 : w.heap.size + 1 + 1 < w'.heap.size := by omega); (try have hq3 : w.heap.size + 1 + 1 + 1 < w'.heap.size := by omega))
  go_ret
  exact ⟨rfl, by (repeat (first | with_reducible exact Below.refl _ _ | with_reducible exact below_regrown _ _ _ | with_reducible refine bel_step0 (by assumption) ?_ | with_reducible refine bel_alloc0 ?_ _ | with_reducible refine bel_regrown0 ?_ _ _ | with_reducible refine bel_regrown ?_ (by first | omega | (simp; done) | (simp; omega)) _ _ | with_reducible refine below_drewN ?_ _ | with_reducible refine Below.drew ?_ | with_reducible refine Below.alloc ?_ (by first | omega | (simp; done) | (simp; omega)) _ | with_reducible refine Below.setCell ?_ (by first | omega | (simp; done) | (simp; omega)) _ | with_reducible refine bel_step (by assumption) (by first | omega | (simp; done) | (simp; omega)) ?_ | with_reducible refine bel_grown (by assumption) (by first | omega | (simp; done) | (simp; omega)) (by first | omega | (simp; done) | (simp; omega)) ?_))⟩

/-- The padded length. -/
def padN (z : Nat) (n : Int) : Int := ((z : Int) + n - 1) / n * n
theorem pad_bounds (z : Nat) (n : Int) (h1 : 1 ≤ n) (h2 : n ≤ 10) (hz : z ≤ 1048576) : 0 ≤ ((z : Int) + n - 1) / n ∧ ((z : Int) + n - 1) / n ≤ 1048586 := by
  refine ⟨Int.ediv_nonneg (by omega) (by omega), ?_⟩
  exact Int.le_trans (Int.ediv_le_self _ (by omega)) (by omega)
theorem mul_small {q n : Int} (h0 : 0 ≤ q) (h1 : q ≤ 1048586) (h2 : 1 ≤ n) (h3 : n ≤ 10) : 0 ≤ q * n ∧ q * n ≤ 10485860 := by
  refine ⟨Int.mul_nonneg h0 (by omega), ?_⟩
  have := Int.mul_le_mul h1 h3 (by omega) (by omega : (0 : Int) ≤ 1048586)
  omega
theorem C_l20Padded (s : ByteArray) (n : Int) (w : World) (h1 : 1 ≤ n) (h2 : n ≤ 10) (hz : s.size ≤ 1048576) :
    Calls Tryd.prog 55 #[.string s, .int .i64 n] w fun e w' => e = .returned (.int .i64 (padN s.size n)) ∧ w = w' := by
  obtain ⟨q0, q1⟩ := pad_bounds s.size n h1 h2 hz
  obtain ⟨q2, q3⟩ := mul_small q0 q1 h1 h2
  go_enter Tryd.func55, Tryd.ntmps55
  go_wp2
  go_ret
  exact ⟨rfl, rfl⟩
theorem C_ceilDiv (a n : Int) (w : World) (h1 : 1 ≤ n) (h2 : n ≤ 10) (h0 : 0 ≤ a) (hz : a ≤ 1048576) :
    Calls Tryd.prog 81 #[.int .i64 a, .int .i64 n] w fun e w' => e = .returned (.int .i64 ((a + n - 1) / n)) ∧ w = w' := by
  go_enter Tryd.func81, Tryd.ntmps81
  go_wp2
  go_ret
  exact ⟨rfl, rfl⟩
theorem C_paddedLength (s : ByteArray) (n : Int) (w : World) (h1 : 1 ≤ n) (h2 : n ≤ 10) (hz : s.size ≤ 1048576) :
    Calls Tryd.prog 58 #[.string s, .int .i64 n] w fun e w' => e = .returned (.int .i64 (padN s.size n)) ∧ w = w' := by
  obtain ⟨q0, q1⟩ := pad_bounds s.size n h1 h2 hz
  obtain ⟨q2, q3⟩ := mul_small q0 q1 h1 h2
  go_enter Tryd.func58, Tryd.ntmps58
  go_wp2_with (go_at_call 81; refine (C_ceilDiv _ _ _ h1 h2 (by omega) (by omega)).mono ?_; rintro e w' ⟨rfl, rfl⟩)
  go_ret
  exact ⟨rfl, rfl⟩
theorem C_PaddedLengthI (s : ByteArray) (n : Int) (w : World) (hz : s.size ≤ 1048576) :
    Calls Tryd.prog 16 #[.string s, .int .i64 n] w fun e w' => e = .returned (.tuple #[.int .i64 (if wordB s && within n 1 10 then padN s.size n else 0), .bool (wordB s && within n 1 10)]) ∧ Below w.heap.size w w' := by
  have hs : s.size ≤ 9223372036854775807 := by omega
  cases h1 : wordB s
  · go_enter Tryd.func16, Tryd.ntmps16
    go_wp2_with ((go_at_call 56; refine (C_isWord _ _ (by assumption)).mono ?_; rintro e w' ⟨rfl, hb'⟩; obtain ⟨hc', hf'⟩ := bcell hb'; (try simp only [World.size_drew] at hc' hf'); have hz' := bsize hb'; (try simp at hz'); have ht' := (by first | exact lt_le5 hz' | exact lt_le4 hz' | exact lt_le3 hz' | exact lt_le2 hz' | exact lt_le1 hz' | exact lt_le0 hz' : ∀ n, n < _ → n < w'.heap.size); (first | (obtain ⟨hs1, hs2, hs3, hs4, hs5⟩ := sz5 hz') | (obtain ⟨hs1, hs2, hs3, hs4⟩ := sz4 hz') | (obtain ⟨hs1, hs2, hs3⟩ := sz3 hz') | (obtain ⟨hs1, hs2⟩ := sz2 hz') | (have hs1 := sz1 hz') | skip); (try have hq0 : w.heap.size < w'.heap.size := by omega); (try have hq1 : w.heap.size + 1 < w'.heap.size := by omega); (try have hq2 : w.heap.size + 1 + 1 < w'.heap.size := by omega); (try have hq3 : w.heap.size + 1 + 1 + 1 < w'.heap.size := by omega)); rw [h1])
    go_ret2
    exact ⟨rfl, by (repeat (first | with_reducible exact Below.refl _ _ | with_reducible exact below_regrown _ _ _ | with_reducible refine bel_step0 (by assumption) ?_ | with_reducible refine bel_alloc0 ?_ _ | with_reducible refine bel_regrown0 ?_ _ _ | with_reducible refine bel_regrown ?_ (by first | omega | (simp; done) | (simp; omega)) _ _ | with_reducible refine below_drewN ?_ _ | with_reducible refine Below.drew ?_ | with_reducible refine Below.alloc ?_ (by first | omega | (simp; done) | (simp; omega)) _ | with_reducible refine Below.setCell ?_ (by first | omega | (simp; done) | (simp; omega)) _ | with_reducible refine bel_step (by assumption) (by first | omega | (simp; done) | (simp; omega)) ?_ | with_reducible refine bel_grown (by assumption) (by first | omega | (simp; done) | (simp; omega)) (by first | omega | (simp; done) | (simp; omega)) ?_))⟩
  · cases h2 : within n 1 10
    · go_enter Tryd.func16, Tryd.ntmps16
      go_wp2_with (first | ((go_at_call 56; refine (C_isWord _ _ (by assumption)).mono ?_; rintro e w' ⟨rfl, hb'⟩; obtain ⟨hc', hf'⟩ := bcell hb'; (try simp only [World.size_drew] at hc' hf'); have hz' := bsize hb'; (try simp at hz'); have ht' := (by first | exact lt_le5 hz' | exact lt_le4 hz' | exact lt_le3 hz' | exact lt_le2 hz' | exact lt_le1 hz' | exact lt_le0 hz' : ∀ n, n < _ → n < w'.heap.size); (first | (obtain ⟨hs1, hs2, hs3, hs4, hs5⟩ := sz5 hz') | (obtain ⟨hs1, hs2, hs3, hs4⟩ := sz4 hz') | (obtain ⟨hs1, hs2, hs3⟩ := sz3 hz') | (obtain ⟨hs1, hs2⟩ := sz2 hz') | (have hs1 := sz1 hz') | skip); (try have hq0 : w.heap.size < w'.heap.size := by omega); (try have hq1 : w.heap.size + 1 < w'.heap.size := by omega); (try have hq2 : w.heap.size + 1 + 1 < w'.heap.size := by omega); (try have hq3 : w.heap.size + 1 + 1 + 1 < w'.heap.size := by omega)); rw [h1]) | ((go_at_call 57; refine (C_within _ _ _ _).mono ?_; rintro e w' ⟨rfl, rfl⟩); rw [h2]))
      go_ret2
      exact ⟨rfl, by (repeat (first | with_reducible exact Below.refl _ _ | with_reducible exact below_regrown _ _ _ | with_reducible refine bel_step0 (by assumption) ?_ | with_reducible refine bel_alloc0 ?_ _ | with_reducible refine bel_regrown0 ?_ _ _ | with_reducible refine bel_regrown ?_ (by first | omega | (simp; done) | (simp; omega)) _ _ | with_reducible refine below_drewN ?_ _ | with_reducible refine Below.drew ?_ | with_reducible refine Below.alloc ?_ (by first | omega | (simp; done) | (simp; omega)) _ | with_reducible refine Below.setCell ?_ (by first | omega | (simp; done) | (simp; omega)) _ | with_reducible refine bel_step (by assumption) (by first | omega | (simp; done) | (simp; omega)) ?_ | with_reducible refine bel_grown (by assumption) (by first | omega | (simp; done) | (simp; omega)) (by first | omega | (simp; done) | (simp; omega)) ?_))⟩
    · obtain ⟨g1, g2⟩ := within_iff.1 h2
      go_enter Tryd.func16, Tryd.ntmps16
      go_wp2_with (first | ((go_at_call 56; refine (C_isWord _ _ (by assumption)).mono ?_; rintro e w' ⟨rfl, hb'⟩; obtain ⟨hc', hf'⟩ := bcell hb'; (try simp only [World.size_drew] at hc' hf'); have hz' := bsize hb'; (try simp at hz'); have ht' := (by first | exact lt_le5 hz' | exact lt_le4 hz' | exact lt_le3 hz' | exact lt_le2 hz' | exact lt_le1 hz' | exact lt_le0 hz' : ∀ n, n < _ → n < w'.heap.size); (first | (obtain ⟨hs1, hs2, hs3, hs4, hs5⟩ := sz5 hz') | (obtain ⟨hs1, hs2, hs3, hs4⟩ := sz4 hz') | (obtain ⟨hs1, hs2, hs3⟩ := sz3 hz') | (obtain ⟨hs1, hs2⟩ := sz2 hz') | (have hs1 := sz1 hz') | skip); (try have hq0 : w.heap.size < w'.heap.size := by omega); (try have hq1 : w.heap.size + 1 < w'.heap.size := by omega); (try have hq2 : w.heap.size + 1 + 1 < w'.heap.size := by omega); (try have hq3 : w.heap.size + 1 + 1 + 1 < w'.heap.size := by omega)); rw [h1]) | ((go_at_call 57; refine (C_within _ _ _ _).mono ?_; rintro e w' ⟨rfl, rfl⟩); rw [h2]) | (go_at_call 58; refine (C_paddedLength _ _ _ g1 g2 hz).mono ?_; rintro e w' ⟨rfl, rfl⟩))
      go_ret2
      exact ⟨rfl, by (repeat (first | with_reducible exact Below.refl _ _ | with_reducible exact below_regrown _ _ _ | with_reducible refine bel_step0 (by assumption) ?_ | with_reducible refine bel_alloc0 ?_ _ | with_reducible refine bel_regrown0 ?_ _ _ | with_reducible refine bel_regrown ?_ (by first | omega | (simp; done) | (simp; omega)) _ _ | with_reducible refine below_drewN ?_ _ | with_reducible refine Below.drew ?_ | with_reducible refine Below.alloc ?_ (by first | omega | (simp; done) | (simp; omega)) _ | with_reducible refine Below.setCell ?_ (by first | omega | (simp; done) | (simp; omega)) _ | with_reducible refine bel_step (by assumption) (by first | omega | (simp; done) | (simp; omega)) ?_ | with_reducible refine bel_grown (by assumption) (by first | omega | (simp; done) | (simp; omega)) (by first | omega | (simp; done) | (simp; omega)) ?_))⟩
theorem C_PaddedLengthS (s : ByteArray) (n : Int) (w : World) (hz : s.size ≤ 1048576) :
    Calls Tryd.prog 15 #[.string s, .int .i64 n] w fun e w' => e = .returned (.tuple #[.int .i64 (if wordB s && within n 1 10 then padN s.size n else 0), .bool (wordB s && within n 1 10)]) ∧ Below w.heap.size w w' := by
  have hs : s.size ≤ 9223372036854775807 := by omega
  cases h1 : wordB s
  · go_enter Tryd.func15, Tryd.ntmps15
    go_wp2_with ((go_at_call 53; refine (C_l2Word _ _ (by assumption)).mono ?_; rintro e w' ⟨rfl, rfl⟩); rw [h1])
    go_ret2
    exact ⟨rfl, by (repeat (first | with_reducible exact Below.refl _ _ | with_reducible exact below_regrown _ _ _ | with_reducible refine bel_step0 (by assumption) ?_ | with_reducible refine bel_alloc0 ?_ _ | with_reducible refine bel_regrown0 ?_ _ _ | with_reducible refine bel_regrown ?_ (by first | omega | (simp; done) | (simp; omega)) _ _ | with_reducible refine below_drewN ?_ _ | with_reducible refine Below.drew ?_ | with_reducible refine Below.alloc ?_ (by first | omega | (simp; done) | (simp; omega)) _ | with_reducible refine Below.setCell ?_ (by first | omega | (simp; done) | (simp; omega)) _ | with_reducible refine bel_step (by assumption) (by first | omega | (simp; done) | (simp; omega)) ?_ | with_reducible refine bel_grown (by assumption) (by first | omega | (simp; done) | (simp; omega)) (by first | omega | (simp; done) | (simp; omega)) ?_))⟩
  · cases h2 : within n 1 10
    · go_enter Tryd.func15, Tryd.ntmps15
      go_wp2_with (first | ((go_at_call 53; refine (C_l2Word _ _ (by assumption)).mono ?_; rintro e w' ⟨rfl, rfl⟩); rw [h1]) | ((go_at_call 54; refine (C_l1In _ _ _ _).mono ?_; rintro e w' ⟨rfl, rfl⟩); rw [h2]))
      go_ret2
      exact ⟨rfl, by (repeat (first | with_reducible exact Below.refl _ _ | with_reducible exact below_regrown _ _ _ | with_reducible refine bel_step0 (by assumption) ?_ | with_reducible refine bel_alloc0 ?_ _ | with_reducible refine bel_regrown0 ?_ _ _ | with_reducible refine bel_regrown ?_ (by first | omega | (simp; done) | (simp; omega)) _ _ | with_reducible refine below_drewN ?_ _ | with_reducible refine Below.drew ?_ | with_reducible refine Below.alloc ?_ (by first | omega | (simp; done) | (simp; omega)) _ | with_reducible refine Below.setCell ?_ (by first | omega | (simp; done) | (simp; omega)) _ | with_reducible refine bel_step (by assumption) (by first | omega | (simp; done) | (simp; omega)) ?_ | with_reducible refine bel_grown (by assumption) (by first | omega | (simp; done) | (simp; omega)) (by first | omega | (simp; done) | (simp; omega)) ?_))⟩
    · obtain ⟨g1, g2⟩ := within_iff.1 h2
      go_enter Tryd.func15, Tryd.ntmps15
      go_wp2_with (first | ((go_at_call 53; refine (C_l2Word _ _ (by assumption)).mono ?_; rintro e w' ⟨rfl, rfl⟩); rw [h1]) | ((go_at_call 54; refine (C_l1In _ _ _ _).mono ?_; rintro e w' ⟨rfl, rfl⟩); rw [h2]) | (go_at_call 55; refine (C_l20Padded _ _ _ g1 g2 hz).mono ?_; rintro e w' ⟨rfl, rfl⟩))
      go_ret2
      exact ⟨rfl, by (repeat (first | with_reducible exact Below.refl _ _ | with_reducible exact below_regrown _ _ _ | with_reducible refine bel_step0 (by assumption) ?_ | with_reducible refine bel_alloc0 ?_ _ | with_reducible refine bel_regrown0 ?_ _ _ | with_reducible refine bel_regrown ?_ (by first | omega | (simp; done) | (simp; omega)) _ _ | with_reducible refine below_drewN ?_ _ | with_reducible refine Below.drew ?_ | with_reducible refine Below.alloc ?_ (by first | omega | (simp; done) | (simp; omega)) _ | with_reducible refine Below.setCell ?_ (by first | omega | (simp; done) | (simp; omega)) _ | with_reducible refine bel_step (by assumption) (by first | omega | (simp; done) | (simp; omega)) ?_ | with_reducible refine bel_grown (by assumption) (by first | omega | (simp; done) | (simp; omega)) (by first | omega | (simp; done) | (simp; omega)) ?_))⟩
theorem C_LengthClueI (s : ByteArray) (w : World) (hz : s.size ≤ 1048576) :
    Calls Tryd.prog 22 #[.string s] w fun e w' => e = .returned (.tuple #[.agg #[.int .i64 (if wordB s then s.size else 0), .int .i64 0, .string ByteArray.empty, .string ByteArray.empty], .bool (wordB s)]) ∧ Below w.heap.size w w' := by
  have hs : s.size ≤ 9223372036854775807 := by omega
  cases h1 : wordB s
  all_goals
    go_enter Tryd.func22, Tryd.ntmps22
    go_wp2_with ((go_at_call 56; refine (C_isWord _ _ (by assumption)).mono ?_; rintro e w' ⟨rfl, hb'⟩; obtain ⟨hc', hf'⟩ := bcell hb'; (try simp only [World.size_drew] at hc' hf'); have hz' := bsize hb'; (try simp at hz'); have ht' := (by first | exact lt_le5 hz' | exact lt_le4 hz' | exact lt_le3 hz' | exact lt_le2 hz' | exact lt_le1 hz' | exact lt_le0 hz' : ∀ n, n < _ → n < w'.heap.size); (first | (obtain ⟨hs1, hs2, hs3, hs4, hs5⟩ := sz5 hz') | (obtain ⟨hs1, hs2, hs3, hs4⟩ := sz4 hz') | (obtain ⟨hs1, hs2, hs3⟩ := sz3 hz') | (obtain ⟨hs1, hs2⟩ := sz2 hz') | (have hs1 := sz1 hz') | skip); (try have hq0 : w.heap.size < w'.heap.size := by omega); (try have hq1 : w.heap.size + 1 < w'.heap.size := by omega); (try have hq2 : w.heap.size + 1 + 1 < w'.heap.size := by omega); (try have hq3 : w.heap.size + 1 + 1 + 1 < w'.heap.size := by omega)); rw [h1])
    (go_light; refine bodyPost_ret (by simp (maxDischargeDepth := 3) [results, Tryd.results22, go_sem, *]; try rfl) rfl ?_)
    exact ⟨rfl, by (repeat (first | with_reducible exact Below.refl _ _ | with_reducible exact below_regrown _ _ _ | with_reducible refine bel_step0 (by assumption) ?_ | with_reducible refine bel_alloc0 ?_ _ | with_reducible refine bel_regrown0 ?_ _ _ | with_reducible refine bel_regrown ?_ (by first | omega | (simp; done) | (simp; omega)) _ _ | with_reducible refine below_drewN ?_ _ | with_reducible refine Below.drew ?_ | with_reducible refine Below.alloc ?_ (by first | omega | (simp; done) | (simp; omega)) _ | with_reducible refine Below.setCell ?_ (by first | omega | (simp; done) | (simp; omega)) _ | with_reducible refine bel_step (by assumption) (by first | omega | (simp; done) | (simp; omega)) ?_ | with_reducible refine bel_grown (by assumption) (by first | omega | (simp; done) | (simp; omega)) (by first | omega | (simp; done) | (simp; omega)) ?_))⟩
theorem C_LengthClueS (s : ByteArray) (w : World) (hz : s.size ≤ 1048576) :
    Calls Tryd.prog 21 #[.string s] w fun e w' => e = .returned (.tuple #[.agg #[.int .i64 (if wordB s then s.size else 0), .int .i64 0, .string ByteArray.empty, .string ByteArray.empty], .bool (wordB s)]) ∧ Below w.heap.size w w' := by
  have hs : s.size ≤ 9223372036854775807 := by omega
  cases h1 : wordB s
  all_goals
    go_enter Tryd.func21, Tryd.ntmps21
    go_wp2_with ((go_at_call 53; refine (C_l2Word _ _ (by assumption)).mono ?_; rintro e w' ⟨rfl, rfl⟩); rw [h1])
    (go_light; refine bodyPost_ret (by simp (maxDischargeDepth := 3) [results, Tryd.results21, go_sem, *]; try rfl) rfl ?_)
    exact ⟨rfl, by (repeat (first | with_reducible exact Below.refl _ _ | with_reducible exact below_regrown _ _ _ | with_reducible refine bel_step0 (by assumption) ?_ | with_reducible refine bel_alloc0 ?_ _ | with_reducible refine bel_regrown0 ?_ _ _ | with_reducible refine bel_regrown ?_ (by first | omega | (simp; done) | (simp; omega)) _ _ | with_reducible refine below_drewN ?_ _ | with_reducible refine Below.drew ?_ | with_reducible refine Below.alloc ?_ (by first | omega | (simp; done) | (simp; omega)) _ | with_reducible refine Below.setCell ?_ (by first | omega | (simp; done) | (simp; omega)) _ | with_reducible refine bel_step (by assumption) (by first | omega | (simp; done) | (simp; omega)) ?_ | with_reducible refine bel_grown (by assumption) (by first | omega | (simp; done) | (simp; omega)) (by first | omega | (simp; done) | (simp; omega)) ?_))⟩
end Go.Proofs.YtnhkejbgcjebmaaDoor
