/- Whether a word fits a clue: the program's test and the reference's. No condition but those stated. -/
import Derived.Test.YtnhkejbgcjebmaaDoorClueB
namespace Go.Proofs.YtnhkejbgcjebmaaDoor
set_option linter.unusedVariables false
set_option linter.unusedSimpArgs false
open Go.RowKit Go.Sort
/-- The number of the first letter. -/
def fstI (x : ByteArray) : Int := ((x.data.toList.headD 97).toNat : Int) - 96
theorem headD_zero (l : List UInt8) (h : 0 < l.length) (d : UInt8) : l.headD d = l[0] := by
  cases l with
  | nil => simp at h
  | cons a r => rfl
theorem fstI_at {x : ByteArray} (h : 0 < x.size) : fstI x = (x[0].toNat : Int) - 96 := by
  unfold fstI
  rw [headD_zero _ (by rw [← Lib.size_eq]; exact h)]
  rfl
theorem word_first {x : ByteArray} (h : wordB x = true) : ∃ hz : 0 < x.size, 97 ≤ (x[0].toNat : Int) ∧ (x[0].toNat : Int) ≤ 122 := by
  have hz := (wordB_size h).1
  refine ⟨by omega, ?_⟩
  unfold wordB at h
  rw [Bool.and_eq_true] at h
  have := (lowS_at x).1 h.2 0 (by omega)
  unfold lowB at this
  simp at this
  omega
theorem C_firstOf (x : ByteArray) (w : World) (hx : wordB x = true) :
    Calls Tryd.prog 88 #[.string x] w fun e w' => e = .returned (.int .i64 (fstI x)) ∧ w' = w := by
  obtain ⟨hz, h1, h2⟩ := word_first hx
  have hf := Lib.hid (fstI_at hz)
  go_enter Tryd.func88, Tryd.ntmps88
  go_wp2
  go_ret
  exact ⟨ret_int (by rw [hf.out]; omega), rfl⟩
theorem C_l20First (x : ByteArray) (w : World) (hx : wordB x = true) :
    Calls Tryd.prog 87 #[.string x] w fun e w' => e = .returned (.int .i64 (fstI x)) ∧ w' = w := by
  obtain ⟨hz, h1, h2⟩ := word_first hx
  have hf := Lib.hid (fstI_at hz)
  go_enter Tryd.func87, Tryd.ntmps87
  go_wp2
  go_ret
  exact ⟨ret_int (by rw [hf.out]; omega), rfl⟩
def gtB (x s : ByteArray) : Bool := !(Op.bytesLess x.toList s.toList || x.toList == s.toList)
def fitB (a b : Int) (s t : ByteArray) (x : ByteArray) : Bool :=
  (a == 0 || a == (x.size : Int)) && (b == 0 || b == fstI x) && gtB x s && (t.toList.isEmpty || Op.bytesLess x.toList t.toList)
set_option maxHeartbeats 4000000 in
theorem C_fits (a b : Int) (s t : ByteArray) (x : ByteArray) (w : World) (hx : wordB x = true) :
    Calls Tryd.prog 86 #[.agg #[.int .i64 a, .int .i64 b, .string s, .string t], .string x] w fun e w' => e = .returned (.bool (fitB a b s t x)) ∧ Below w.heap.size w w' := by
  have hsz := (wordB_size hx).2
  go_enter Tryd.func86, Tryd.ntmps86
  go_wp2
  refine wp_region_quiet_lit (by kernel_rfl) (by kernel_rfl) ?_
  repeat (any_goals (first | go_big_quiet_step ((go_at_call 88; exact Calls.quiet_of_same (C_firstOf _ _ hx))) | quiet_step ((go_at_call 88; exact Calls.quiet_of_same (C_firstOf _ _ hx))) | (refine wpQuiet_step (fun K hK => ?_); go_simp; split <;> (refine hK _ ?_; clear hK K))))
  all_goals (refine wpQuiet_nil ?_; intro _ hw'; obtain ⟨nq, hw''⟩ := hw'; subst hw'')
  all_goals go_wp2
  all_goals go_ret
  all_goals refine ⟨ret_bool ?_, below_drewN ((Below.refl _ _).alloc (Nat.le_refl _) _) _⟩
  all_goals first | (simp_all [fitB, gtB]; done) | (simp_all [fitB, gtB]; intro p q; simp_all)
theorem bytesLess_nil (l : List UInt8) : Op.bytesLess l [] = false := by cases l <;> rfl
theorem gtB_empty {x s : ByteArray} (hx : wordB x = true) (h : s.toList = []) : gtB x s = true := by
  unfold gtB
  rw [h, bytesLess_nil]
  have := (wordB_size hx).1
  have e : x.toList ≠ [] := by
    rw [Lib.toList_data]; intro h0
    have h2 := Lib.size_eq x
    rw [h0, List.length_nil] at h2; omega
  simp [e]
set_option maxHeartbeats 4000000 in
theorem C_l20Can (a b : Int) (s t : ByteArray) (x : ByteArray) (w : World) (hx : wordB x = true) :
    Calls Tryd.prog 70 #[.string x, .agg #[.int .i64 a, .int .i64 b, .string s, .string t]] w fun e w' => e = .returned (.bool (fitB a b s t x)) ∧ Below w.heap.size w w' := by
  have hsz := (wordB_size hx).2
  have HGE := Lib.hid (fun h => gtB_empty (s := s) hx h)
  go_enter Tryd.func70, Tryd.ntmps70
  go_wp2
  refine wp_region_quiet_lit (by kernel_rfl) (by kernel_rfl) ?_
  repeat (any_goals (first | go_big_quiet_step ((go_at_call 87; exact Calls.quiet_of_same (C_l20First _ _ hx))) | quiet_step ((go_at_call 87; exact Calls.quiet_of_same (C_l20First _ _ hx))) | (refine wpQuiet_step (fun K hK => ?_); go_simp; split <;> (refine hK _ ?_; clear hK K))))
  all_goals (refine wpQuiet_nil ?_; intro _ hw'; obtain ⟨nq, hw''⟩ := hw'; subst hw'')
  all_goals go_wp2
  all_goals go_ret
  all_goals refine ⟨ret_bool ?_, below_drewN ((Below.refl _ _).alloc (Nat.le_refl _) _) _⟩
  all_goals (have hge := HGE.out; clear HGE; unfold gtB at hge)
  all_goals first | (simp_all [fitB, gtB]; done) | (simp_all [fitB, gtB]; intro p q; simp_all) | (by_cases he : s.toList = [] <;> simp_all [fitB, gtB]; done) | (by_cases he : s.toList = [] <;> simp_all [fitB, gtB] <;> (have hx2 : (x.toList == s.toList) = false := (by simp_all); simp [hx2, he]))
end Go.Proofs.YtnhkejbgcjebmaaDoor
