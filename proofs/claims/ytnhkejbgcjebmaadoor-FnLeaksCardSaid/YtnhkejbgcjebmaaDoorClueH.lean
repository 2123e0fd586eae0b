/- WhatLeaks: the program and the reference. No condition but those stated. -/
import Derived.Test.YtnhkejbgcjebmaaDoorClueG
namespace Go.Proofs.YtnhkejbgcjebmaaDoor
set_option linter.unusedVariables false
set_option linter.unusedSimpArgs false
open Go.RowKit Go.Sort
def inB (n : Nat) (f : Nat → ByteArray) (x : ByteArray) : Bool := anyB n fun j => (f j).toList == x.toList
theorem toList_inj {x y : ByteArray} (h : x.toList = y.toList) : x = y := by
  rw [Lib.toList_data, Lib.toList_data] at h
  cases x; cases y
  simp at h
  rw [h]
theorem inB_word {n : Nat} {f : Nat → ByteArray} {x : ByteArray} (hw : ∀ j, j < n → wordB (f j) = true) (h : inB n f x = true) : wordB x = true := by
  obtain ⟨j, hj, he⟩ := anyB_iff.1 h
  have := toList_inj (by simpa using he : (f j).toList = x.toList)
  rw [← this]; exact hw j hj
theorem C_IndexT (v : Value) (n : Nat) (f : Nat → ByteArray) (x : ByteArray) (w : World) (h : TI w v n f) :
    Calls Tryd.prog 89 #[v, .string x] w fun e w' => e = .returned (.int .i64 (firstB n fun j => x.toList == (f j).toList)) ∧ w = w' := by
  obtain ⟨A, cap, rfl, hr, hc, hm⟩ := h
  have HR := Lib.hid hr; clear hr
  go_enter Tryd.func89, Tryd.ntmps89
  go_wp2
  go_loop [8] (fun i => ∃ k : Nat, k ≤ n ∧ i = .int .i64 k ∧ anyB k (fun j => x.toList == (f j).toList) = false) (fun i => n - (intOf i).toNat)
  case atStart => exact ⟨0, Nat.zero_le _, rfl, rfl⟩
  case round =>
    obtain ⟨k, hk, rfl, ha⟩ := hrel
    have HA := Lib.hid ha; clear ha
    by_cases hlt : k < n
    · obtain ⟨b, off, rfl, hb, hcell⟩ := HR.out (by omega)
      have hck := hcell k hlt
      clear hcell
      cases he : (x.toList == (f k).toList)
      · go_wp2
        go_round
        case rel => exact ⟨k + 1, by omega, by go_num, anyB_next HA.out he⟩
        case measure => simp [intOf]; omega
      · go_wp2
        go_ret
        exact ⟨ret_int (firstB_some hlt HA.out he).symm, rfl⟩
    · obtain rfl : k = n := by omega
      go_wp2
      go_ret
      exact ⟨ret_int (firstB_none HA.out).symm, rfl⟩
theorem C_ContainsT (v : Value) (n : Nat) (f : Nat → ByteArray) (x : ByteArray) (w : World) (h : TI w v n f) :
    Calls Tryd.prog 72 #[v, .string x] w fun e w' => e = .returned (.bool (inB n f x)) ∧ w = w' := by
  go_enter Tryd.func72, Tryd.ntmps72
  go_wp2_with (go_at_call 89; refine (C_IndexT _ _ _ _ _ h).mono ?_; rintro e w' ⟨rfl, rfl⟩)
  go_ret
  exact ⟨ret_bool (by rw [firstB_ge]; unfold inB; exact anyB_congr fun j _ => BEq.comm), rfl⟩
/-- The told clue is safe for k. -/
def leakB (n : Nat) (f : Nat → ByteArray) (k : Int) (x : ByteArray) (u v : Bool) : Bool := decide (k ≤ (cT n f u v x : Int))
theorem C_leak1 (B1 B2 B3 : Nat) (v : Value) (n : Nat) (f : Nat → ByteArray) (k : Int) (x : ByteArray) (p q : Bool) (w : World) (h : TI w v n f) (hn : n ≤ 1048576) (hw : ∀ j, j < n → wordB (f j) = true) (hx : wordB x = true)
    (l1 : B1 < w.heap.size) (l2 : B2 < w.heap.size) (l3 : B3 < w.heap.size) (c1 : w.cell? ⟨B1, 0, none⟩ = some v) (c2 : w.cell? ⟨B2, 0, none⟩ = some (.string x)) (c3 : w.cell? ⟨B3, 0, none⟩ = some (.int .i64 k)) :
    Calls Tryd.prog 73 #[.bool p, .bool q, .pointer (some ⟨B1, 0, none⟩), .pointer (some ⟨B2, 0, none⟩), .pointer (some ⟨B3, 0, none⟩)] w fun e w' => e = .returned (.bool (leakB n f k x p q)) ∧ Below w.heap.size w w' := by
  have HH := Lib.hid h
  have HW := Lib.hid hw
  obtain ⟨A, cap, rfl, hr, hc, hm⟩ := h
  obtain ⟨ca, hca⟩ : ∃ ca : Int, (if p then (x.size : Int) else 0) = ca := ⟨_, rfl⟩
  obtain ⟨cb, hcb⟩ : ∃ cb : Int, (if q then fstI x else 0) = cb := ⟨_, rfl⟩
  obtain ⟨m0, hm0⟩ : ∃ m0 : Nat, cT n f p q x = m0 := ⟨_, rfl⟩
  have hml : m0 ≤ n := by rw [← hm0]; exact cT_le _ _ _ _ _
  have hlk : leakB n f k x p q = decide (k ≤ (m0 : Int)) := by unfold leakB; rw [hm0]
  have HT := Lib.hid (fun W => C_clueTo x p q W hx)
  have HCD := Lib.hid (fun W v hv => C_candTold v n f p q x W hv hn hw)
  rw [hca, hcb] at HT HCD
  rw [hm0] at HCD
  rw [hlk]
  clear hca hcb hm0 hlk hr hw
  have r1 : ∀ W, Below w.heap.size w W → W.cell? ⟨B1, 0, none⟩ = some (.slice A n cap) := fun W hW => (hW.cell (p := ⟨B1, 0, none⟩) l1).trans c1
  have r2 : ∀ W, Below w.heap.size w W → W.cell? ⟨B2, 0, none⟩ = some (.string x) := fun W hW => (hW.cell (p := ⟨B2, 0, none⟩) l2).trans c2
  have r3 : ∀ W, Below w.heap.size w W → W.cell? ⟨B3, 0, none⟩ = some (.int .i64 k) := fun W hW => (hW.cell (p := ⟨B3, 0, none⟩) l3).trans c3
  clear c1 c2 c3
  go_enter Tryd.func73, Tryd.ntmps73
  go_wp2
  go_region_held3 (fun W => Below w.heap.size w W) (((repeat (first | with_reducible exact Below.refl _ _ | with_reducible exact below_regrown _ _ _ | with_reducible refine bel_step0 (by assumption) ?_ | with_reducible refine bel_alloc0 ?_ _ | with_reducible refine bel_regrown0 ?_ _ _ | with_reducible refine bel_regrown ?_ (by first | omega | (simp; done) | (simp; omega)) _ _ | with_reducible refine below_drewN ?_ _ | with_reducible refine Below.drew ?_ | with_reducible refine Below.alloc ?_ (by first | omega | (simp; done) | (simp; omega)) _ | with_reducible refine Below.setCell ?_ (by first | omega | (simp; done) | (simp; omega)) _ | with_reducible refine bel_step (by assumption) (by first | omega | (simp; done) | (simp; omega)) ?_ | with_reducible refine bel_grown (by assumption) (by first | omega | (simp; done) | (simp; omega)) (by first | omega | (simp; done) | (simp; omega)) ?_)))) (first | (go_at_call 69; refine (HT.out _).mono ?_; rintro e w1 ⟨rfl, hb1⟩) | (go_at_call 66; refine (HCD.out _ _ (HH.out.below (by (repeat (first | with_reducible exact Below.refl _ _ | with_reducible exact below_regrown _ _ _ | with_reducible refine bel_step0 (by assumption) ?_ | with_reducible refine bel_alloc0 ?_ _ | with_reducible refine bel_regrown0 ?_ _ _ | with_reducible refine bel_regrown ?_ (by first | omega | (simp; done) | (simp; omega)) _ _ | with_reducible refine below_drewN ?_ _ | with_reducible refine Below.drew ?_ | with_reducible refine Below.alloc ?_ (by first | omega | (simp; done) | (simp; omega)) _ | with_reducible refine Below.setCell ?_ (by first | omega | (simp; done) | (simp; omega)) _ | with_reducible refine bel_step (by assumption) (by first | omega | (simp; done) | (simp; omega)) ?_ | with_reducible refine bel_grown (by assumption) (by first | omega | (simp; done) | (simp; omega)) (by first | omega | (simp; done) | (simp; omega)) ?_))))).mono ?_; rintro e w2 ⟨A2, c2, rfl, hb2⟩))
  all_goals
    go_wp2
    go_ret
    exact ⟨rfl, by (repeat (first | with_reducible exact Below.refl _ _ | with_reducible exact below_regrown _ _ _ | with_reducible refine bel_step0 (by assumption) ?_ | with_reducible refine bel_alloc0 ?_ _ | with_reducible refine bel_regrown0 ?_ _ _ | with_reducible refine bel_regrown ?_ (by first | omega | (simp; done) | (simp; omega)) _ _ | with_reducible refine below_drewN ?_ _ | with_reducible refine Below.drew ?_ | with_reducible refine Below.alloc ?_ (by first | omega | (simp; done) | (simp; omega)) _ | with_reducible refine Below.setCell ?_ (by first | omega | (simp; done) | (simp; omega)) _ | with_reducible refine bel_step (by assumption) (by first | omega | (simp; done) | (simp; omega)) ?_ | with_reducible refine bel_grown (by assumption) (by first | omega | (simp; done) | (simp; omega)) (by first | omega | (simp; done) | (simp; omega)) ?_))⟩
def wl (u v x : Bool) : ByteArray := if u then ⟨#[108, 101, 110, 103, 116, 104]⟩ else if v then ⟨#[102, 105, 114, 115, 116]⟩ else if x then ⟨#[98, 111, 116, 104]⟩ else ⟨#[110, 111, 116, 104, 105, 110, 103]⟩
def wleak (n : Nat) (f : Nat → ByteArray) (k : Int) (x : ByteArray) : ByteArray := wl (!leakB n f k x true false) (!leakB n f k x false true) (!leakB n f k x true true)
set_option maxHeartbeats 4000000 in
theorem C_WhatLeaksI (v : Value) (n : Nat) (f : Nat → ByteArray) (x : ByteArray) (k : Int) (w : World) (h : TI w v n f) (hs : ∀ j, j < n → (f j).size ≤ 9223372036854775807) (hx : x.size ≤ 9223372036854775807) :
    Calls Tryd.prog 42 #[v, .string x, .int .i64 k] w fun e w' => e = .returned (.tuple #[.string (if dictB n f && inB n f x && within k 1 12 then wleak n f k x else ⟨#[]⟩), .bool (dictB n f && inB n f x && within k 1 12)]) ∧ Below w.heap.size w w' := by
  obtain ⟨A, cap, rfl, hr, hc, hm⟩ := id h
  clear hr
  obtain ⟨w0, hw0⟩ : ∃ w0, w0 = ((w.alloc (.cells #[.slice A n cap] 36)).alloc (.cells #[.string x] 9)).alloc (.cells #[.int .i64 k] 3) := ⟨_, rfl⟩
  have hb0 : Below w.heap.size w w0 := by rw [hw0]; (repeat (first | with_reducible exact Below.refl _ _ | with_reducible exact below_regrown _ _ _ | with_reducible refine bel_step0 (by assumption) ?_ | with_reducible refine bel_alloc0 ?_ _ | with_reducible refine bel_regrown0 ?_ _ _ | with_reducible refine bel_regrown ?_ (by first | omega | (simp; done) | (simp; omega)) _ _ | with_reducible refine below_drewN ?_ _ | with_reducible refine Below.drew ?_ | with_reducible refine Below.alloc ?_ (by first | omega | (simp; done) | (simp; omega)) _ | with_reducible refine Below.setCell ?_ (by first | omega | (simp; done) | (simp; omega)) _ | with_reducible refine bel_step (by assumption) (by first | omega | (simp; done) | (simp; omega)) ?_ | with_reducible refine bel_grown (by assumption) (by first | omega | (simp; done) | (simp; omega)) (by first | omega | (simp; done) | (simp; omega)) ?_))
  have l0 : w.heap.size + 3 ≤ w0.heap.size := by rw [hw0]; simp
  have q1 : w0.cell? ⟨w.heap.size, 0, none⟩ = some (.slice A n cap) := by rw [hw0]; exact cell_old _ (by simp) (cell_old _ (by simp) (cell_new _ _ _ _ _ rfl))
  have q2 : w0.cell? ⟨w.heap.size + 1, 0, none⟩ = some (.string x) := by rw [hw0]; exact cell_old _ (by simp) (by have := cell_new (w.alloc (.cells #[.slice A n cap] 36)) #[.string x] 9 0 _ rfl; simp only [World.size_alloc] at this; exact this)
  have q3 : w0.cell? ⟨w.heap.size + 1 + 1, 0, none⟩ = some (.int .i64 k) := by rw [hw0]; have := cell_new ((w.alloc (.cells #[.slice A n cap] 36)).alloc (.cells #[.string x] 9)) #[.int .i64 k] 3 0 _ rfl; simpa using this
  have HW0 := Lib.hid hw0
  have HH := Lib.hid (h.below hb0)
  have HS := Lib.hid hs
  clear hs hw0 h
  cases hd : dictB n f
  · go_enter Tryd.func42, Tryd.ntmps42
    go_wp2_with fail
    rw [← HW0.out]
    refine (C_IsDictionary _ _ _ _ HH.out HS.out).mono ?_; rintro e w1 ⟨rfl, hb1⟩; rw [hd]
    go_wp2_with fail
    go_ret2
    exact ⟨rfl, bel_step0 hb1 hb0⟩
  have hw : ∀ j, j < n → wordB (f j) = true := fun j hj => dictB_word hd hj
  have hn := dictB_len hd
  have HW := Lib.hid hw
  cases hi : inB n f x
  · go_enter Tryd.func42, Tryd.ntmps42
    go_wp2_with fail
    rw [← HW0.out]
    refine (C_IsDictionary _ _ _ _ HH.out HS.out).mono ?_; rintro e w1 ⟨rfl, hb1⟩; rw [hd]
    have p1 := (hb1.cell (p := ⟨w.heap.size, 0, none⟩) (by show w.heap.size < _; omega)).trans q1
    have p2 := (hb1.cell (p := ⟨w.heap.size + 1, 0, none⟩) (by show w.heap.size + 1 < _; omega)).trans q2
    go_wp2_with fail
    refine (C_ContainsT _ _ _ _ _ (HH.out.below hb1)).mono ?_; rintro e w2 ⟨rfl, rfl⟩; rw [hi]
    go_wp2_with fail
    go_ret2
    exact ⟨rfl, bel_step0 hb1 hb0⟩
  have hxw := inB_word hw hi
  clear hw
  cases hk : within k 1 12
  · go_enter Tryd.func42, Tryd.ntmps42
    go_wp2_with fail
    rw [← HW0.out]
    refine (C_IsDictionary _ _ _ _ HH.out HS.out).mono ?_; rintro e w1 ⟨rfl, hb1⟩; rw [hd]
    have p1 := (hb1.cell (p := ⟨w.heap.size, 0, none⟩) (by show w.heap.size < _; omega)).trans q1
    have p2 := (hb1.cell (p := ⟨w.heap.size + 1, 0, none⟩) (by show w.heap.size + 1 < _; omega)).trans q2
    have p3 := (hb1.cell (p := ⟨w.heap.size + 1 + 1, 0, none⟩) (by show w.heap.size + 1 + 1 < _; omega)).trans q3
    go_wp2_with fail
    refine (C_ContainsT _ _ _ _ _ (HH.out.below hb1)).mono ?_; rintro e w2 ⟨rfl, rfl⟩; rw [hi]
    go_wp2_with fail
    refine (C_isLeast _ _).mono ?_; rintro e w3 ⟨rfl, rfl⟩; rw [hk]
    go_wp2_with fail
    go_ret2
    exact ⟨rfl, bel_step0 hb1 hb0⟩
  · obtain ⟨b1, hb1e⟩ : ∃ b, leakB n f k x true false = b := ⟨_, rfl⟩
    obtain ⟨b2, hb2e⟩ : ∃ b, leakB n f k x false true = b := ⟨_, rfl⟩
    obtain ⟨b3, hb3e⟩ : ∃ b, leakB n f k x true true = b := ⟨_, rfl⟩
    have hwl : wleak n f k x = wl (!b1) (!b2) (!b3) := by unfold wleak; rw [hb1e, hb2e, hb3e]
    rw [hwl]
    have HL : ∀ W, Below w0.heap.size w0 W → TI W (.slice A n cap) n f ∧ w.heap.size < W.heap.size ∧ w.heap.size + 1 < W.heap.size ∧ w.heap.size + 1 + 1 < W.heap.size ∧ W.cell? ⟨w.heap.size, 0, none⟩ = some (.slice A n cap) ∧ W.cell? ⟨w.heap.size + 1, 0, none⟩ = some (.string x) ∧ W.cell? ⟨w.heap.size + 1 + 1, 0, none⟩ = some (.int .i64 k) := fun W hW =>
      ⟨HH.out.below hW, by have := hW.size; omega, by have := hW.size; omega, by have := hW.size; omega, (hW.cell (p := ⟨w.heap.size, 0, none⟩) (by show w.heap.size < _; omega)).trans q1, (hW.cell (p := ⟨w.heap.size + 1, 0, none⟩) (by show w.heap.size + 1 < _; omega)).trans q2, (hW.cell (p := ⟨w.heap.size + 1 + 1, 0, none⟩) (by show w.heap.size + 1 + 1 < _; omega)).trans q3⟩
    have HC := Lib.hid (fun p q W (hW : Below w0.heap.size w0 W) => C_leak1 w.heap.size (w.heap.size + 1) (w.heap.size + 1 + 1) (.slice A n cap) n f k x p q W (HL W hW).1 (by omega) HW.out hxw (HL W hW).2.1 (HL W hW).2.2.1 (HL W hW).2.2.2.1 (HL W hW).2.2.2.2.1 (HL W hW).2.2.2.2.2.1 (HL W hW).2.2.2.2.2.2)
    have H1 := Lib.hid hb1e
    have H2 := Lib.hid hb2e
    have H3 := Lib.hid hb3e
    clear HL hb1e hb2e hb3e hwl
    cases b1 <;> cases b2 <;> cases b3
    all_goals
      go_enter Tryd.func42, Tryd.ntmps42
      go_wp2_with fail
      rw [← HW0.out]
      refine (C_IsDictionary _ _ _ _ HH.out HS.out).mono ?_; rintro e w1 ⟨rfl, hb1⟩; rw [hd]
      have p1 := (hb1.cell (p := ⟨w.heap.size, 0, none⟩) (by show w.heap.size < _; omega)).trans q1
      have p2 := (hb1.cell (p := ⟨w.heap.size + 1, 0, none⟩) (by show w.heap.size + 1 < _; omega)).trans q2
      have p3 := (hb1.cell (p := ⟨w.heap.size + 1 + 1, 0, none⟩) (by show w.heap.size + 1 + 1 < _; omega)).trans q3
      go_wp2_with fail
      refine (C_ContainsT _ _ _ _ _ (HH.out.below hb1)).mono ?_; rintro e w2 ⟨rfl, rfl⟩; rw [hi]
      go_wp2_with fail
      refine (C_isLeast _ _).mono ?_; rintro e w3 ⟨rfl, rfl⟩; rw [hk]
      clear p1 p2 p3
      go_wp2_with fail
      refine (HC.out _ _ _ hb1).mono ?_; rintro e w4 ⟨rfl, hb4⟩; rw [H1.out]
      have B4 := bel_step0 hb4 hb1
      go_wp2_with fail
      first
        | (go_ret2; exact ⟨rfl, bel_step0 hb4 (bel_step0 hb1 hb0)⟩)
        | (refine (HC.out _ _ _ B4).mono ?_; rintro e w5 ⟨rfl, hb5⟩; rw [H2.out]
           have B5 := bel_step0 hb5 B4
           go_wp2_with fail
           first
             | (go_ret2; exact ⟨rfl, bel_step0 B5 hb0⟩)
             | (refine (HC.out _ _ _ B5).mono ?_; rintro e w6 ⟨rfl, hb6⟩; rw [H3.out]
                have B6 := bel_step0 hb6 B5
                go_wp2_with fail
                go_ret2
                exact ⟨rfl, bel_step0 B6 hb0⟩))
end Go.Proofs.YtnhkejbgcjebmaaDoor
