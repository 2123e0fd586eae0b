/- LeastSafe, IsSafeClue, WhatLeaks: the program and the reference. No condition but those stated. -/
import Derived.Test.YtnhkejbgcjebmaaDoorClueE
import Derived.Deep.RegionHeld3
namespace Go.Proofs.YtnhkejbgcjebmaaDoor
set_option linter.unusedVariables false
set_option linter.unusedSimpArgs false
open Go.RowKit Go.Sort
/-- How many candidates the told clue to x leaves. -/
def cT (n : Nat) (f : Nat → ByteArray) (u v : Bool) (x : ByteArray) : Nat := cntB n fun j => fitB (if u then x.size else 0) (if v then fstI x else 0) ByteArray.empty ByteArray.empty (f j)
theorem cT_le (n : Nat) (f : Nat → ByteArray) (u v : Bool) (x : ByteArray) : cT n f u v x ≤ n := cntB_le _ _
theorem C_countTold (v : Value) (n : Nat) (f : Nat → ByteArray) (p q : Bool) (x : ByteArray) (w : World) (h : TI w v n f) (hn : n ≤ 1048576) (hw : ∀ j, j < n → wordB (f j) = true) :
    Calls Tryd.prog 65 #[v, .agg #[.int .i64 (if p then x.size else 0), .int .i64 (if q then fstI x else 0), .string ByteArray.empty, .string ByteArray.empty]] w fun e w' => e = .returned (.int .i64 (cT n f p q x)) ∧ Below w.heap.size w w' :=
  C_l20Count v n f _ _ _ _ w h hn hw
theorem C_candTold (v : Value) (n : Nat) (f : Nat → ByteArray) (p q : Bool) (x : ByteArray) (w : World) (h : TI w v n f) (hn : n ≤ 1048576) (hw : ∀ j, j < n → wordB (f j) = true) :
    Calls Tryd.prog 66 #[v, .agg #[.int .i64 (if p then x.size else 0), .int .i64 (if q then fstI x else 0), .string ByteArray.empty, .string ByteArray.empty]] w fun e w' => ∃ A cap, e = .returned (.slice A (cT n f p q x) cap) ∧ Below w.heap.size w w' :=
  (C_candidates v n f _ _ _ _ w h hn hw).mono fun e w' ⟨v', h1, ⟨A, cap, h2, _⟩, h3⟩ => ⟨A, cap, by rw [h1, h2]; rfl, h3⟩
def leastM (n : Nat) (f : Nat → ByteArray) (u v : Bool) : Nat → Int
  | 0 => n
  | k + 1 => min (leastM n f u v k) (cT n f u v (f k))
theorem leastM_bd (n : Nat) (f : Nat → ByteArray) (u v : Bool) (k : Nat) : 0 ≤ leastM n f u v k ∧ leastM n f u v k ≤ n := by
  induction k with
  | zero => simp [leastM]
  | succ k ih => simp only [leastM]; omega
set_option maxHeartbeats 2000000 in
theorem C_LeastSafeI (v : Value) (n : Nat) (f : Nat → ByteArray) (p q : Bool) (w : World) (h : TI w v n f) (hs : ∀ j, j < n → (f j).size ≤ 9223372036854775807) :
    Calls Tryd.prog 36 #[v, .bool p, .bool q] w fun e w' => e = .returned (.tuple #[.int .i64 (if dictB n f then leastM n f p q n else 0), .bool (dictB n f)]) ∧ Below w.heap.size w w' := by
  have HH := Lib.hid h
  have HS := Lib.hid hs
  clear hs
  obtain ⟨A, cap, rfl, hr, hc, hm⟩ := h
  have HR := Lib.hid hr
  clear hr
  cases hd : dictB n f
  · go_enter Tryd.func36, Tryd.ntmps36
    go_wp2_with (go_at_call 27; refine (C_IsDictionary _ _ _ _ HH.out HS.out).mono ?_; rintro e w1 ⟨rfl, hb1⟩; rw [hd])
    go_ret2
    exact ⟨rfl, hb1⟩
  · have hw : ∀ j, j < n → wordB (f j) = true := fun j hj => dictB_word hd hj
    have hn := dictB_len hd
    have HW := Lib.hid hw
    clear hw
    go_enter Tryd.func36, Tryd.ntmps36
    go_wp2_with (go_at_call 27; refine (C_IsDictionary _ _ _ _ HH.out HS.out).mono ?_; rintro e w1 ⟨rfl, hb1⟩; rw [hd])
    go_loopw [8, 18] (fun y i wr => ∃ k : Nat, k ≤ n ∧ i = .int .i64 k ∧ y = .int .i64 (leastM n f p q k) ∧ Below w.heap.size w wr) (fun _ i _ => n - (intOf i).toNat)
    case atStart => exact ⟨0, Nat.zero_le _, rfl, rfl, hb1⟩
    case round =>
      obtain ⟨k, hk, rfl, hy, hB⟩ := hrel
      by_cases hlt : k < n
      · obtain ⟨bb, off, rfl, hb, hcell⟩ := (HR.out.below hB) (by omega)
        have hck := hcell k hlt
        have hbd := leastM_bd n f p q k
        have hct := cT_le n f p q (f k)
        obtain ⟨l0, hl0⟩ : ∃ l0, leastM n f p q k = l0 := ⟨_, rfl⟩
        obtain ⟨m0, hm0⟩ : ∃ m0 : Nat, cT n f p q (f k) = m0 := ⟨_, rfl⟩
        have hl1 : leastM n f p q (k + 1) = min l0 m0 := by simp only [leastM, hl0, hm0]
        rw [hl0] at hbd hy
        subst hy
        rw [hm0] at hct
        have HL1 := Lib.hid hl1
        have HM0 := Lib.hid hm0
        clear hcell hl0 hl1 hm0
        obtain ⟨ca, hca⟩ : ∃ ca : Int, (if p then ((f k).size : Int) else 0) = ca := ⟨_, rfl⟩
        obtain ⟨cb, hcb⟩ : ∃ cb : Int, (if q then fstI (f k) else 0) = cb := ⟨_, rfl⟩
        have HT := Lib.hid (fun W => C_clueTo (f k) p q W (HW.out k hlt))
        have HCD := Lib.hid (fun W v hv => C_candTold v n f p q (f k) W hv (by omega) HW.out)
        rw [hca, hcb] at HT HCD
        rw [HM0.out] at HCD
        clear hca hcb HM0
        go_wp2_with fail
        refine (HT.out _).mono ?_; rintro e w2 ⟨rfl, hb2⟩
        have hB2 := bel_step0 hb2 hB
        go_wp2_with fail
        refine (HCD.out _ _ (HH.out.below hB2)).mono ?_; rintro e w3 ⟨A3, c3, rfl, hb3⟩
        have hB3 := bel_step0 hb3 hB2
        go_wp2
        all_goals
          go_roundw
          case rel => exact ⟨k + 1, by omega, by go_num, by first | (rw [HL1.out]; done) | (rw [HL1.out]; first | rfl | go_num | (congr 1; omega)), hB3⟩
          case measure => simp [intOf]; omega
      · obtain rfl : k = n := by omega
        subst hy
        go_wp2
        go_ret2
        exact ⟨rfl, hB⟩
set_option maxHeartbeats 2000000 in
theorem C_LeastSafeS (v : Value) (n : Nat) (f : Nat → ByteArray) (p q : Bool) (w : World) (h : TI w v n f) (hs : ∀ j, j < n → (f j).size ≤ 9223372036854775807) :
    Calls Tryd.prog 35 #[v, .bool p, .bool q] w fun e w' => e = .returned (.tuple #[.int .i64 (if dictB n f then leastM n f p q n else 0), .bool (dictB n f)]) ∧ Below w.heap.size w w' := by
  have HH := Lib.hid h
  have HS := Lib.hid hs
  clear hs
  obtain ⟨A, cap, rfl, hr, hc, hm⟩ := h
  have HR := Lib.hid hr
  clear hr
  cases hd : dictB n f
  · go_enter Tryd.func35, Tryd.ntmps35
    go_wp2_with (go_at_call 60; refine (C_l20Good _ _ _ _ HH.out HS.out).mono ?_; rintro e w1 ⟨rfl, hb1⟩; rw [hd])
    go_ret2
    exact ⟨rfl, hb1⟩
  · have hw : ∀ j, j < n → wordB (f j) = true := fun j hj => dictB_word hd hj
    have hn := dictB_len hd
    have HW := Lib.hid hw
    clear hw
    go_enter Tryd.func35, Tryd.ntmps35
    go_wp2_with (go_at_call 60; refine (C_l20Good _ _ _ _ HH.out HS.out).mono ?_; rintro e w1 ⟨rfl, hb1⟩; rw [hd])
    go_loopw [8, 9] (fun y i wr => ∃ k : Nat, k ≤ n ∧ i = .int .i64 k ∧ y = .int .i64 (leastM n f p q k) ∧ Below w.heap.size w wr) (fun _ i _ => n - (intOf i).toNat)
    case atStart => exact ⟨0, Nat.zero_le _, rfl, rfl, hb1⟩
    case round =>
      obtain ⟨k, hk, rfl, hy, hB⟩ := hrel
      by_cases hlt : k < n
      · obtain ⟨bb, off, rfl, hb, hcell⟩ := (HR.out.below hB) (by omega)
        have hck := hcell k hlt
        have hbd := leastM_bd n f p q k
        have hct := cT_le n f p q (f k)
        obtain ⟨l0, hl0⟩ : ∃ l0, leastM n f p q k = l0 := ⟨_, rfl⟩
        obtain ⟨m0, hm0⟩ : ∃ m0 : Nat, cT n f p q (f k) = m0 := ⟨_, rfl⟩
        have hl1 : leastM n f p q (k + 1) = min l0 m0 := by simp only [leastM, hl0, hm0]
        rw [hl0] at hbd hy
        subst hy
        rw [hm0] at hct
        have HL1 := Lib.hid hl1
        have HM0 := Lib.hid hm0
        clear hcell hl0 hl1 hm0
        obtain ⟨ca, hca⟩ : ∃ ca : Int, (if p then ((f k).size : Int) else 0) = ca := ⟨_, rfl⟩
        obtain ⟨cb, hcb⟩ : ∃ cb : Int, (if q then fstI (f k) else 0) = cb := ⟨_, rfl⟩
        have HT := Lib.hid (fun W => C_l20Told (f k) p q W (HW.out k hlt))
        have HCD := Lib.hid (fun W v hv => C_countTold v n f p q (f k) W hv (by omega) HW.out)
        rw [hca, hcb] at HT HCD
        rw [HM0.out] at HCD
        clear hca hcb HM0
        go_wp2_with fail
        refine (HT.out _).mono ?_; rintro e w2 ⟨rfl, hb2⟩
        have hB2 := bel_step0 hb2 hB
        go_wp2_with fail
        refine (HCD.out _ _ (HH.out.below hB2)).mono ?_; rintro e w3 ⟨rfl, hb3⟩
        have hB3 := bel_step0 hb3 hB2
        go_wp2_with fail
        refine (C_l1Least _ _ _).mono ?_; rintro e w4 ⟨rfl, rfl⟩
        go_wp2
        go_roundw
        case rel => exact ⟨k + 1, by omega, by go_num, by rw [HL1.out], hB3⟩
        case measure => simp [intOf]; omega
      · obtain rfl : k = n := by omega
        subst hy
        go_wp2
        go_ret2
        exact ⟨rfl, hB⟩
set_option maxHeartbeats 2000000 in
theorem C_IsSafeClueI (v : Value) (n : Nat) (f : Nat → ByteArray) (a b : Int) (s t : ByteArray) (k : Int) (w : World) (h : TI w v n f) (hs : ∀ j, j < n → (f j).size ≤ 9223372036854775807) (hs1 : s.size ≤ 9223372036854775807) (hs2 : t.size ≤ 9223372036854775807) :
    Calls Tryd.prog 34 #[v, .agg #[.int .i64 a, .int .i64 b, .string s, .string t], .int .i64 k] w fun e w' => e = .returned (.tuple #[.bool (dictB n f && okC a b s t && within k 1 12 && decide (k ≤ (cntB n fun j => fitB a b s t (f j)))), .bool (dictB n f && okC a b s t && within k 1 12)]) ∧ Below w.heap.size w w' := by
  obtain ⟨w0, hw0⟩ : ∃ w0, w0 = w.alloc (.cells #[.int .i64 a, .int .i64 b, .string s, .string t] 29) := ⟨_, rfl⟩
  have hb0 : Below w.heap.size w w0 := by rw [hw0]; (repeat (first | with_reducible exact Below.refl _ _ | with_reducible exact below_regrown _ _ _ | with_reducible refine bel_step0 (by assumption) ?_ | with_reducible refine bel_alloc0 ?_ _ | with_reducible refine bel_regrown0 ?_ _ _ | with_reducible refine bel_regrown ?_ (by first | omega | (simp; done) | (simp; omega)) _ _ | with_reducible refine below_drewN ?_ _ | with_reducible refine Below.drew ?_ | with_reducible refine Below.alloc ?_ (by first | omega | (simp; done) | (simp; omega)) _ | with_reducible refine Below.setCell ?_ (by first | omega | (simp; done) | (simp; omega)) _ | with_reducible refine bel_step (by assumption) (by first | omega | (simp; done) | (simp; omega)) ?_ | with_reducible refine bel_grown (by assumption) (by first | omega | (simp; done) | (simp; omega)) (by first | omega | (simp; done) | (simp; omega)) ?_))
  have hcl : clueAt w0 w.heap.size a b s t := by rw [hw0]; exact ⟨by simp, by simp, by simp, by simp, by simp⟩
  have HW0 := Lib.hid hw0
  have HH := Lib.hid (h.below hb0)
  have HS := Lib.hid hs
  clear hs hw0
  obtain ⟨A, cap, rfl, hr, hc, hm⟩ := h
  clear hr
  cases hd : dictB n f
  · go_enter Tryd.func34, Tryd.ntmps34
    go_wp2_with fail
    rw [← HW0.out]
    refine (C_IsDictionary _ _ _ _ HH.out HS.out).mono ?_; rintro e w1 ⟨rfl, hb1⟩; rw [hd]
    go_wp2_with fail
    go_ret2
    exact ⟨rfl, bel_step0 hb1 hb0⟩
  have hw : ∀ j, j < n → wordB (f j) = true := fun j hj => dictB_word hd hj
  have hn := dictB_len hd
  have HW := Lib.hid hw
  clear hw
  cases ho : okC a b s t
  · go_enter Tryd.func34, Tryd.ntmps34
    go_wp2_with fail
    rw [← HW0.out]
    refine (C_IsDictionary _ _ _ _ HH.out HS.out).mono ?_; rintro e w1 ⟨rfl, hb1⟩; rw [hd]
    obtain ⟨q, q0, q1, q2, q3⟩ := hcl.below hb1
    go_wp2_with fail
    refine (C_IsClue _ _ _ _ _ hs1 hs2).mono ?_; rintro e w2 ⟨rfl, hb2⟩; rw [ho]
    go_wp2_with fail
    go_ret2
    exact ⟨rfl, bel_step0 hb2 (bel_step0 hb1 hb0)⟩
  cases hk : within k 1 12
  · go_enter Tryd.func34, Tryd.ntmps34
    go_wp2_with fail
    rw [← HW0.out]
    refine (C_IsDictionary _ _ _ _ HH.out HS.out).mono ?_; rintro e w1 ⟨rfl, hb1⟩; rw [hd]
    obtain ⟨q, q0, q1, q2, q3⟩ := hcl.below hb1
    go_wp2_with fail
    refine (C_IsClue _ _ _ _ _ hs1 hs2).mono ?_; rintro e w2 ⟨rfl, hb2⟩; rw [ho]
    go_wp2_with fail
    refine (C_isLeast _ _).mono ?_; rintro e w3 ⟨rfl, rfl⟩; rw [hk]
    go_wp2_with fail
    go_ret2
    exact ⟨rfl, bel_step0 hb2 (bel_step0 hb1 hb0)⟩
  · obtain ⟨m0, hm0⟩ : ∃ m0 : Nat, (cntB n fun j => fitB a b s t (f j)) = m0 := ⟨_, rfl⟩
    have hm1 : m0 ≤ n := by rw [← hm0]; exact cntB_le _ _
    have HC := Lib.hid (fun W v hv => C_candidates v n f a b s t W hv (by omega) HW.out)
    rw [hm0] at HC ⊢
    clear hm0
    go_enter Tryd.func34, Tryd.ntmps34
    go_wp2_with fail
    rw [← HW0.out]
    refine (C_IsDictionary _ _ _ _ HH.out HS.out).mono ?_; rintro e w1 ⟨rfl, hb1⟩; rw [hd]
    have hcl1 := hcl.below hb1
    obtain ⟨q, q0, q1, q2, q3⟩ := hcl1
    go_wp2_with fail
    refine (C_IsClue _ _ _ _ _ hs1 hs2).mono ?_; rintro e w2 ⟨rfl, hb2⟩; rw [ho]
    clear q q0 q1 q2 q3
    obtain ⟨q, q0, q1, q2, q3⟩ := (hcl.below hb1).below hb2
    go_wp2_with fail
    refine (C_isLeast _ _).mono ?_; rintro e w3 ⟨rfl, rfl⟩; rw [hk]
    go_wp2_with fail
    refine (HC.out _ _ ((HH.out.below hb1).below hb2)).mono ?_; rintro e w4 ⟨v4, rfl, ⟨A4, cap4, rfl, _⟩, hb4⟩
    go_wp2_with fail
    go_ret2
    exact ⟨rfl, bel_step0 hb4 (bel_step0 hb2 (bel_step0 hb1 hb0))⟩
set_option maxHeartbeats 2000000 in
theorem C_IsSafeClueS (v : Value) (n : Nat) (f : Nat → ByteArray) (a b : Int) (s t : ByteArray) (k : Int) (w : World) (h : TI w v n f) (hs : ∀ j, j < n → (f j).size ≤ 9223372036854775807) (hs1 : s.size ≤ 9223372036854775807) (hs2 : t.size ≤ 9223372036854775807) :
    Calls Tryd.prog 33 #[v, .agg #[.int .i64 a, .int .i64 b, .string s, .string t], .int .i64 k] w fun e w' => e = .returned (.tuple #[.bool (dictB n f && okC a b s t && within k 1 12 && decide (k ≤ (cntB n fun j => fitB a b s t (f j)))), .bool (dictB n f && okC a b s t && within k 1 12)]) ∧ Below w.heap.size w w' := by
  obtain ⟨w0, hw0⟩ : ∃ w0, w0 = w.alloc (.cells #[.int .i64 a, .int .i64 b, .string s, .string t] 29) := ⟨_, rfl⟩
  have hb0 : Below w.heap.size w w0 := by rw [hw0]; (repeat (first | with_reducible exact Below.refl _ _ | with_reducible exact below_regrown _ _ _ | with_reducible refine bel_step0 (by assumption) ?_ | with_reducible refine bel_alloc0 ?_ _ | with_reducible refine bel_regrown0 ?_ _ _ | with_reducible refine bel_regrown ?_ (by first | omega | (simp; done) | (simp; omega)) _ _ | with_reducible refine below_drewN ?_ _ | with_reducible refine Below.drew ?_ | with_reducible refine Below.alloc ?_ (by first | omega | (simp; done) | (simp; omega)) _ | with_reducible refine Below.setCell ?_ (by first | omega | (simp; done) | (simp; omega)) _ | with_reducible refine bel_step (by assumption) (by first | omega | (simp; done) | (simp; omega)) ?_ | with_reducible refine bel_grown (by assumption) (by first | omega | (simp; done) | (simp; omega)) (by first | omega | (simp; done) | (simp; omega)) ?_))
  have hcl : clueAt w0 w.heap.size a b s t := by rw [hw0]; exact ⟨by simp, by simp, by simp, by simp, by simp⟩
  have HW0 := Lib.hid hw0
  have HH := Lib.hid (h.below hb0)
  have HS := Lib.hid hs
  clear hs hw0
  obtain ⟨A, cap, rfl, hr, hc, hm⟩ := h
  clear hr
  cases hd : (dictB n f && within k 1 12)
  · have e1 : (dictB n f && okC a b s t && within k 1 12) = false := by
      cases h1 : dictB n f <;> cases h2 : within k 1 12 <;> simp_all
    rw [e1, Bool.false_and]
    have HE := Lib.hid e1
    clear e1
    go_enter Tryd.func33, Tryd.ntmps33
    go_wp2_with fail
    rw [← HW0.out]
    refine (C_l20K _ _ _ _ _ HH.out HS.out).mono ?_; rintro e w1 ⟨rfl, hb1⟩; rw [hd]
    go_wp2_with fail
    go_ret2
    exact ⟨rfl, bel_step0 hb1 hb0⟩
  have hd1 : dictB n f = true := by revert hd; cases dictB n f <;> simp
  have hk1 : within k 1 12 = true := by revert hd; cases within k 1 12 <;> simp
  have hw : ∀ j, j < n → wordB (f j) = true := fun j hj => dictB_word hd1 hj
  have hn := dictB_len hd1
  have HW := Lib.hid hw
  have HD := Lib.hid hd
  rw [hd1, hk1]
  clear hw hd hd1 hk1
  cases ho : okC a b s t
  · go_enter Tryd.func33, Tryd.ntmps33
    go_wp2_with fail
    rw [← HW0.out]
    refine (C_l20K _ _ _ _ _ HH.out HS.out).mono ?_; rintro e w1 ⟨rfl, hb1⟩; rw [HD.out]
    obtain ⟨q, q0, q1, q2, q3⟩ := hcl.below hb1
    go_wp2_with fail
    refine (C_l20Clue _ _ _ _ _ hs1 hs2).mono ?_; rintro e w2 ⟨rfl, hb2⟩; rw [ho]
    go_wp2_with fail
    go_ret2
    exact ⟨rfl, bel_step0 hb2 (bel_step0 hb1 hb0)⟩
  · obtain ⟨m0, hm0⟩ : ∃ m0 : Nat, (cntB n fun j => fitB a b s t (f j)) = m0 := ⟨_, rfl⟩
    have hm1 : m0 ≤ n := by rw [← hm0]; exact cntB_le _ _
    have HC := Lib.hid (fun W v hv => C_l20Count v n f a b s t W hv (by omega) HW.out)
    rw [hm0] at HC ⊢
    clear hm0
    go_enter Tryd.func33, Tryd.ntmps33
    go_wp2_with fail
    rw [← HW0.out]
    refine (C_l20K _ _ _ _ _ HH.out HS.out).mono ?_; rintro e w1 ⟨rfl, hb1⟩; rw [HD.out]
    have hcl1 := hcl.below hb1
    obtain ⟨q, q0, q1, q2, q3⟩ := hcl1
    go_wp2_with fail
    refine (C_l20Clue _ _ _ _ _ hs1 hs2).mono ?_; rintro e w2 ⟨rfl, hb2⟩; rw [ho]
    clear q q0 q1 q2 q3
    obtain ⟨q, q0, q1, q2, q3⟩ := (hcl.below hb1).below hb2
    go_wp2_with fail
    refine (HC.out _ _ ((HH.out.below hb1).below hb2)).mono ?_; rintro e w4 ⟨rfl, hb4⟩
    go_wp2_with fail
    go_ret2
    exact ⟨rfl, bel_step0 hb4 (bel_step0 hb2 (bel_step0 hb1 hb0))⟩
end Go.Proofs.YtnhkejbgcjebmaaDoor
