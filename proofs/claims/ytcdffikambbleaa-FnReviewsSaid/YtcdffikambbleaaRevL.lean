/- A vote that is cast. No condition but those stated. -/
import Derived.Test.YtcdffikambbleaaRevK
namespace Go.Proofs.Ytcdffikambbleaa
set_option linter.unusedVariables false
set_option linter.unusedSimpArgs false
open Go.RowKit Go.Sort

theorem wp_app1x (w : World) {ops : Array Oper} {rest : List Oper} {o : Oper} {a : Act} {Q : Exit → Act → World → Prop} (hgd : o.guard = none) (s x : Operand)
    (ho : o.op = .call { callee := .builtin .append, args := #[s, x], argTypes := #[22, 22] })
    (base : Nat) (v : Value) (xs : List Int) (hs : a.eval s = v) (hown : OI base w v xs) (g : Nat) (y : Int) (hx : a.eval x = .slice (some ⟨g, 0, none⟩) 1 1) (hc : w.cell? ⟨g, 0, none⟩ = some (.int .i64 y))
    (hlen : xs.length ≤ 1099511627776) (hbase : base ≤ w.heap.size)
    (h : ∀ v' w', OI base w' v' (xs ++ [y]) → w.grownBy w' v.ownBlock → (v'.ownBlock = v.ownBlock ∨ v'.ownBlock = some w.heap.size) → (∃ A c, v' = .slice A (xs ++ [y]).length c) → wpList Try.prog ops Q rest (a.put o.dst v') w') : wpList Try.prog ops Q (o :: rest) a w := by
  obtain ⟨i0, hi, hz0, hz1, hz2⟩ := info_parts info_int
  refine wpList_append_own_at w hgd s x 22 ho base 3 i0 (.int .i64 0) 1 8 Try.underlying22 hi hz0 hz1 hz2 rfl (by omega) v xs.length (xs.map (Value.int .i64)) hs hown ⟨g, 0, none⟩ 1 1 [.int .i64 y] hx rfl
    (fun j u hu => ?_) (fun u hu => ?_) (by unfold maxLen; omega) (by omega) hbase (fun v' w' h1 h2 _ h4 => h v' w' (by unfold OI; simpa using h1) h2 h4 ?_)
  · match j, hu with
    | 0, hu => simp only [List.getElem?_cons_zero, Option.some.injEq] at hu; subst hu; simpa [Addr.add] using hc
    | j + 1, hu => simp at hu
  · simp only [List.mem_singleton] at hu; subst hu; rfl
  · have h1' : OI base w' v' (xs ++ [y]) := by unfold OI; simpa using h1
    obtain ⟨A, c, e, _⟩ := h1'.wi
    exact ⟨A, c, e⟩
theorem C_CastVote1 {w0 : World} (x : Rv) (sv : Value) (hsv : SI w0 sv x.n x.f) (B : Nat) (r : Int) (w : World) (hl : B < w.heap.size) (hB : w.cell? ⟨B, 0, none⟩ = some (.int .i64 r)) :
    Calls Try.prog 90 #[.agg #[.int .i64 x.rid, .int .i64 x.due, sv], .pointer (some ⟨B, 0, none⟩)] w fun e w' => e = .returned (.bool (x.rid == r)) ∧ Below w.heap.size w w' := by
  obtain ⟨A, cap, rfl, _, _, _⟩ := hsv
  have hB2 := cell_old (.cells #[.int .i64 x.rid, .int .i64 x.due, .slice A x.n cap] 27) hl hB
  go_enter Try.func90, Try.ntmps90
  go_wp2
  go_ret
  exact ⟨ret_bool (by simp), by (repeat (first | with_reducible exact Below.refl _ _ | with_reducible exact below_regrown _ _ _ | with_reducible refine bel_step0 (by assumption) ?_ | with_reducible refine bel_alloc0 ?_ _ | with_reducible refine bel_regrown0 ?_ _ _ | with_reducible refine bel_regrown ?_ (by first | omega | (simp; done) | (simp; omega)) _ _ | with_reducible refine below_drewN ?_ _ | with_reducible refine Below.drew ?_ | with_reducible refine Below.alloc ?_ (by first | omega | (simp; done) | (simp; omega)) _ | with_reducible refine Below.setCell ?_ (by first | omega | (simp; done) | (simp; omega)) _ | with_reducible refine bel_step (by assumption) (by first | omega | (simp; done) | (simp; omega)) ?_ | with_reducible refine bel_grown (by assumption) (by first | omega | (simp; done) | (simp; omega)) (by first | omega | (simp; done) | (simp; omega)) ?_))⟩
theorem C_IndexFuncRev (v : Value) (n : Nat) (R : Nat → Rv) (B : Nat) (r : Int) (w : World) (h : RRs w v n R) (hl : B < w.heap.size) (hB : w.cell? ⟨B, 0, none⟩ = some (.int .i64 r)) :
    Calls Try.prog 89 #[v, .func (.func 90) #[] #[.pointer (some ⟨B, 0, none⟩)]] w fun e w' => e = .returned (.int .i64 (firstB n fun j => (R j).rid == r)) ∧ Below w.heap.size w w' := by
  obtain ⟨A, cap, rfl, hr, hc, hm⟩ := h
  have HR := Lib.hid hr; clear hr
  have HBC := Lib.hid hB; clear hB
  go_enter Try.func89, Try.ntmps89
  go_wp2
  go_loopw [8] (fun i wr => ∃ k : Nat, k ≤ n ∧ i = .int .i64 k ∧ anyB k (fun j => (R j).rid == r) = false ∧ Below w.heap.size w wr) (fun i _ => n - (intOf i).toNat)
  case atStart => exact ⟨0, Nat.zero_le _, rfl, rfl, Below.refl _ _⟩
  case round =>
    obtain ⟨k, hk, rfl, ha, hB⟩ := hrel
    have HA := Lib.hid ha; clear ha
    have hbs := hB.size
    by_cases hlt : k < n
    · obtain ⟨b, off, rfl, hb, hcell⟩ := RRs.at_ hB HR.out (by omega)
      obtain ⟨sv, hsv, hck0, hck1, hck2⟩ := hcell k hlt; have hsv0 := hsv; obtain ⟨A1, c1, rfl, hsr1, hsc1, hsm1⟩ := hsv0; clear hsr1
      have hbc := (hB.cell (p := ⟨B, 0, none⟩) hl).trans HBC.out
      clear hcell
      go_wp2_with (go_at_call 90; refine (C_CastVote1 (R k) _ hsv B r _ (by omega) hbc).mono ?_; rintro e w' ⟨rfl, hb'⟩)
      all_goals first
        | (go_ret; exact ⟨ret_int (firstB_some hlt HA.out (by assumption)).symm, by (repeat (first | with_reducible exact Below.refl _ _ | with_reducible exact below_regrown _ _ _ | with_reducible refine bel_step0 (by assumption) ?_ | with_reducible refine bel_alloc0 ?_ _ | with_reducible refine bel_regrown0 ?_ _ _ | with_reducible refine bel_regrown ?_ (by first | omega | (simp; done) | (simp; omega)) _ _ | with_reducible refine below_drewN ?_ _ | with_reducible refine Below.drew ?_ | with_reducible refine Below.alloc ?_ (by first | omega | (simp; done) | (simp; omega)) _ | with_reducible refine Below.setCell ?_ (by first | omega | (simp; done) | (simp; omega)) _ | with_reducible refine bel_step (by assumption) (by first | omega | (simp; done) | (simp; omega)) ?_ | with_reducible refine bel_grown (by assumption) (by first | omega | (simp; done) | (simp; omega)) (by first | omega | (simp; done) | (simp; omega)) ?_))⟩)
        | (go_roundw; (case rel => exact ⟨k + 1, by omega, by go_num, anyB_next HA.out (by (first | (simp [*]; done) | (go_light; simp_all; done) | (go_light; simp_all; omega))), by (repeat (first | with_reducible exact Below.refl _ _ | with_reducible exact below_regrown _ _ _ | with_reducible refine bel_step0 (by assumption) ?_ | with_reducible refine bel_alloc0 ?_ _ | with_reducible refine bel_regrown0 ?_ _ _ | with_reducible refine bel_regrown ?_ (by first | omega | (simp; done) | (simp; omega)) _ _ | with_reducible refine below_drewN ?_ _ | with_reducible refine Below.drew ?_ | with_reducible refine Below.alloc ?_ (by first | omega | (simp; done) | (simp; omega)) _ | with_reducible refine Below.setCell ?_ (by first | omega | (simp; done) | (simp; omega)) _ | with_reducible refine bel_step (by assumption) (by first | omega | (simp; done) | (simp; omega)) ?_ | with_reducible refine bel_grown (by assumption) (by first | omega | (simp; done) | (simp; omega)) (by first | omega | (simp; done) | (simp; omega)) ?_))⟩); (case measure => simp [intOf]; omega))
    · go_wp2
      (go_ret; obtain rfl : k = n := (by omega); exact ⟨ret_int (firstB_none HA.out).symm, by (repeat (first | with_reducible exact Below.refl _ _ | with_reducible exact below_regrown _ _ _ | with_reducible refine bel_step0 (by assumption) ?_ | with_reducible refine bel_alloc0 ?_ _ | with_reducible refine bel_regrown0 ?_ _ _ | with_reducible refine bel_regrown ?_ (by first | omega | (simp; done) | (simp; omega)) _ _ | with_reducible refine below_drewN ?_ _ | with_reducible refine Below.drew ?_ | with_reducible refine Below.alloc ?_ (by first | omega | (simp; done) | (simp; omega)) _ | with_reducible refine Below.setCell ?_ (by first | omega | (simp; done) | (simp; omega)) _ | with_reducible refine bel_step (by assumption) (by first | omega | (simp; done) | (simp; omega)) ?_ | with_reducible refine bel_grown (by assumption) (by first | omega | (simp; done) | (simp; omega)) (by first | omega | (simp; done) | (simp; omega)) ?_))⟩)

def castR (R : Nat → Rv) (r x : Int) (j : Nat) : Rl := if (R j).rid == r then ⟨(R j).rid, (R j).due, lst (R j).n (R j).f ++ [x]⟩ else toL (R j)
def castOk (n : Nat) (R : Nat → Rv) (r x : Int) : Bool := okRs n R && anyB n (fun j => (R j).rid == r) && okRs n (fun j => (castR R r x j).rv)
theorem okRs_lt {n : Nat} {R : Nat → Rv} (h : okRs n R = true) : ∀ i j, i < j → j < n → (R i).rid < (R j).rid := by
  have hg : allB n (goodB R) = true := by unfold okRs at h; simp only [Bool.and_eq_true] at h; exact h.1
  intro i j hij
  induction j with
  | zero => omega
  | succ m ih =>
    intro hj
    have := allB_iff.1 hg (m + 1) hj
    rw [goodB_succ, Bool.and_eq_true, decide_eq_true_eq] at this
    by_cases e : i = m
    · subst e; exact this.2
    · exact Int.lt_trans (ih (by omega) (by omega)) this.2
theorem okRs_votes {n : Nat} {R : Nat → Rv} (h : okRs n R = true) : ∀ j, j < n → (R j).n ≤ 5 := by
  have hg : allB n (goodB R) = true := by unfold okRs at h; simp only [Bool.and_eq_true] at h; exact h.1
  intro j hj
  have := allB_iff.1 hg j hj
  unfold goodB Rv.ok at this
  simp only [Bool.and_eq_true, decide_eq_true_eq] at this
  omega
theorem okRs_congr {n : Nat} {R T : Nat → Rv} (h : ∀ j, j < n → R j = T j) : okRs n R = okRs n T := by
  unfold okRs
  congr 1
  refine allB_congr fun j hj => ?_
  unfold goodB
  rw [h j hj]
  by_cases e : j = 0
  · simp [e]
  · rw [h (j - 1) (by omega)]
theorem okRs_at {n k : Nat} {R : Nat → Rv} {r x : Int} (h : okRs n R = true) (hk : k < n) (he : (R k).rid = r) : ∀ j, j < n → (if j = k then (⟨(R k).rid, (R k).due, lst (R k).n (R k).f ++ [x]⟩ : Rl) else toL (R j)) = castR R r x j := by
  intro j hj
  unfold castR
  by_cases e : j = k
  · subst e; simp [he]
  · rw [if_neg e, if_neg]
    intro h2
    rw [beq_iff_eq, ← he] at h2
    rcases Nat.lt_or_gt_of_ne e with h3 | h3
    · have := okRs_lt h j k h3 hk; omega
    · have := okRs_lt h k j h3 hj; omega
end Go.Proofs.Ytcdffikambbleaa
