/- What the laws on reviews draw. No condition but those stated. -/
import Derived.Test.YtcdffikambbleaaRvDC
namespace Go.Proofs.Ytcdffikambbleaa
set_option linter.unusedVariables false
set_option linter.unusedSimpArgs false
open Go.RowKit Go.Sort
attribute [local go_sem ↓] Go.wp_at_zero Go.wp_at_succ
theorem C_DrawAreReviews (v : Value) (n : Nat) (w : World) (h : SU w v n) :
    Calls Try.prog 95 #[v] w fun e w' => ∃ (u : Value) (m : Nat) (R : Nat → Rl), e = .returned u ∧ m ≤ 11 ∧ RRs w' u m (fun j => (R j).rv) ∧ Below w.heap.size w w' := by
  obtain ⟨A, cap, rfl⟩ := h.form
  obtain ⟨B, hB⟩ : ∃ B, B = w.heap.size := ⟨_, rfl⟩
  obtain ⟨w1, hw1⟩ : ∃ w1, w1 = w.alloc (.cells #[.slice A n cap, .int .i64 0, .int .u64 0] 91) := ⟨_, rfl⟩
  have b1 : Below w.heap.size w w1 := by rw [hw1]; (repeat (first | with_reducible exact Below.refl _ _ | with_reducible exact below_regrown _ _ _ | with_reducible refine bel_step0 (by assumption) ?_ | with_reducible refine bel_alloc0 ?_ _ | with_reducible refine bel_regrown0 ?_ _ _ | with_reducible refine bel_regrown ?_ (by first | omega | (simp; done) | (simp; omega)) _ _ | with_reducible refine below_drewN ?_ _ | with_reducible refine Below.drew ?_ | with_reducible refine Below.alloc ?_ (by first | omega | (simp; done) | (simp; omega)) _ | with_reducible refine Below.setCell ?_ (by first | omega | (simp; done) | (simp; omega)) _ | with_reducible refine bel_step (by assumption) (by first | omega | (simp; done) | (simp; omega)) ?_ | with_reducible refine bel_grown (by assumption) (by first | omega | (simp; done) | (simp; omega)) (by first | omega | (simp; done) | (simp; omega)) ?_))
  have cu1 : Cu w1 B 0 := by rw [hw1, hB]; exact Cu.start h _
  have HW := Lib.hid hw1.symm
  have HB := Lib.hid hB.symm
  have hBw : w.heap.size ≤ B := by omega
  clear hw1 hB h
  go_enter Try.func95, Try.ntmps95
  go_wp2_with fail
  rw [HW.out, HB.out]
  refine (C_reviews B 0 w1 cu1 (by omega)).mono ?_; rintro e w2 ⟨u, m, R, rfl, hm, hS⟩
  go_wp2_with fail
  go_ret
  exact ⟨_, m, R, rfl, hm, hS.lr.rrs, bel_chg hS.ch hBw b1⟩
theorem C_DrawVotesMissing (v : Value) (n : Nat) (w : World) (h : SU w v n) :
    Calls Try.prog 52 #[v] w fun e w' => ∃ (u : Value) (m : Nat) (R : Nat → Rl), e = .returned u ∧ m ≤ 11 ∧ RRs w' u m (fun j => (R j).rv) ∧ Below w.heap.size w w' := by
  go_enter Try.func52, Try.ntmps52
  go_wp2_with fail
  refine (C_DrawAreReviews v n w h).mono ?_; rintro e w2 ⟨u, m, R, rfl, hm, hS, hb⟩
  go_wp2_with fail
  go_ret
  exact ⟨_, m, R, rfl, hm, hS, hb⟩
theorem C_DrawDeciders (v : Value) (n : Nat) (w : World) (h : SU w v n) :
    Calls Try.prog 67 #[v] w fun e w' => ∃ (u : Value) (m : Nat) (R : Nat → Rl), e = .returned u ∧ m ≤ 11 ∧ RRs w' u m (fun j => (R j).rv) ∧ Below w.heap.size w w' := by
  go_enter Try.func67, Try.ntmps67
  go_wp2_with fail
  refine (C_DrawAreReviews v n w h).mono ?_; rintro e w2 ⟨u, m, R, rfl, hm, hS, hb⟩
  go_wp2_with fail
  go_ret
  exact ⟨_, m, R, rfl, hm, hS, hb⟩
set_option maxHeartbeats 1000000 in
theorem C_DrawPutOff (v : Value) (n : Nat) (w : World) (h : SU w v n) :
    Calls Try.prog 53 #[v] w fun e w' => ∃ (u : Value) (m : Nat) (R : Nat → Rl) (d : Int), e = .returned (.tuple #[u, .int .i64 d]) ∧ m ≤ 11 ∧ I64 d ∧ RRs w' u m (fun j => (R j).rv) ∧ Below w.heap.size w w' := by
  obtain ⟨A, cap, rfl⟩ := h.form
  obtain ⟨B, hB⟩ : ∃ B, B = w.heap.size := ⟨_, rfl⟩
  obtain ⟨w1, hw1⟩ : ∃ w1, w1 = w.alloc (.cells #[.slice A n cap, .int .i64 0, .int .u64 0] 91) := ⟨_, rfl⟩
  have b1 : Below w.heap.size w w1 := by rw [hw1]; (repeat (first | with_reducible exact Below.refl _ _ | with_reducible exact below_regrown _ _ _ | with_reducible refine bel_step0 (by assumption) ?_ | with_reducible refine bel_alloc0 ?_ _ | with_reducible refine bel_regrown0 ?_ _ _ | with_reducible refine bel_regrown ?_ (by first | omega | (simp; done) | (simp; omega)) _ _ | with_reducible refine below_drewN ?_ _ | with_reducible refine Below.drew ?_ | with_reducible refine Below.alloc ?_ (by first | omega | (simp; done) | (simp; omega)) _ | with_reducible refine Below.setCell ?_ (by first | omega | (simp; done) | (simp; omega)) _ | with_reducible refine bel_step (by assumption) (by first | omega | (simp; done) | (simp; omega)) ?_ | with_reducible refine bel_grown (by assumption) (by first | omega | (simp; done) | (simp; omega)) (by first | omega | (simp; done) | (simp; omega)) ?_))
  have cu1 : Cu w1 B 0 := by rw [hw1, hB]; exact Cu.start h _
  have HW := Lib.hid hw1.symm
  have HB := Lib.hid hB.symm
  have hBw : w.heap.size ≤ B := by omega
  clear hw1 hB h
  go_enter Try.func53, Try.ntmps53
  go_wp2_with fail
  rw [HW.out, HB.out]
  refine (C_reviews B 0 w1 cu1 (by omega)).mono ?_; rintro e w2 ⟨u, m, R, rfl, hm, hS⟩
  have HS := Lib.hid hS
  have hl2 := hS.cu.lt
  clear hS HW HB cu1
  go_wp2_with fail
  obtain ⟨g, hg⟩ : ∃ g, g = w2.heap.size := ⟨_, rfl⟩
  obtain ⟨w3, hw3⟩ : ∃ w3, w3 = w2.alloc (.cells #[.int .i64 1, .int .i64 30, .int .i64 500, .int .i64 1000, .int .i64 0, .int .i64 1001] 3) := ⟨_, rfl⟩
  have rg : w3.rowIs g 3 6 (fun j => (#[.int .i64 1, .int .i64 30, .int .i64 500, .int .i64 1000, .int .i64 0, .int .i64 1001]).getD j undef) := by rw [hw3, hg]; exact row_lit w2 _ _
  have S3 := Lib.hid (show LS B 300 w1 w3 u m R by rw [hw3]; exact HS.out.alloc _)
  have RG := Lib.hid rg
  have HG := Lib.hid hg.symm
  have HW3 := Lib.hid hw3.symm
  have hgB : g ≠ B := by omega
  clear rg hg hw3 HS hl2
  rw [HG.out, HW3.out]
  clear HG HW3
  refine (C_pick B _ 24 w3 S3.out.cu (by omega) (by omega) (by omega)).mono ?_; rintro e w4 ⟨a, rfl, ⟨ha0, ha1⟩, cu4, hb4⟩
  have S4 := Lib.hid (S3.out.step (Chg.of_grown hb4) cu4)
  have R4 := Lib.hid (RG.out.of_block (hb4.block g RG.out.lt (by intro e; injection e with e; exact hgB e)))
  clear cu4 hb4 RG S3
  obtain ⟨q, hq⟩ : ∃ q : Nat, (q : Int) = a / 11 := ⟨(a / 11).toNat, by omega⟩
  have hq2 : q ≤ 2 := by omega
  have hd1 : (0 : Int) ≤ 4 + a / 11 := by omega
  have hd2 : 4 + a / 11 ≤ 6 := by omega
  have hd3 : (4 + a / 11).toNat = 4 + q := by omega
  go_wp2_with fail
  refine (C_amongR B _ #[.int .i64 1, .int .i64 30, .int .i64 500, .int .i64 1000, .int .i64 0, .int .i64 1001] (4 + q) _ g w4 3 R4.out hgB S4.out.cu (by omega) (by omega) (by simp; omega) (by omega) i64B (by rfl)).mono ?_; rintro e w5 ⟨d, rfl, hd, cu5, hb5⟩
  have S5 := Lib.hid (S4.out.step (Chg.of_grown hb5) cu5)
  clear cu5 hb5 S4 R4 hd1 hd2 hd3 hq
  go_wp2_with fail
  go_ret2
  exact ⟨_, m, R, d, rfl, hm, i64_of hd, S5.out.lr.rrs, bel_chg S5.out.ch hBw b1⟩
set_option maxHeartbeats 1000000 in
theorem C_DrawDecided (v : Value) (n : Nat) (w : World) (h : SU w v n) :
    Calls Try.prog 55 #[v] w fun e w' => ∃ (u : Value) (m : Nat) (R : Nat → Rl) (d : Int), e = .returned (.tuple #[u, .int .i64 d]) ∧ m ≤ 11 ∧ I64 d ∧ RRs w' u m (fun j => (R j).rv) ∧ Below w.heap.size w w' := by
  obtain ⟨A, cap, rfl⟩ := h.form
  obtain ⟨B, hB⟩ : ∃ B, B = w.heap.size := ⟨_, rfl⟩
  obtain ⟨w1, hw1⟩ : ∃ w1, w1 = w.alloc (.cells #[.slice A n cap, .int .i64 0, .int .u64 0] 91) := ⟨_, rfl⟩
  have b1 : Below w.heap.size w w1 := by rw [hw1]; (repeat (first | with_reducible exact Below.refl _ _ | with_reducible exact below_regrown _ _ _ | with_reducible refine bel_step0 (by assumption) ?_ | with_reducible refine bel_alloc0 ?_ _ | with_reducible refine bel_regrown0 ?_ _ _ | with_reducible refine bel_regrown ?_ (by first | omega | (simp; done) | (simp; omega)) _ _ | with_reducible refine below_drewN ?_ _ | with_reducible refine Below.drew ?_ | with_reducible refine Below.alloc ?_ (by first | omega | (simp; done) | (simp; omega)) _ | with_reducible refine Below.setCell ?_ (by first | omega | (simp; done) | (simp; omega)) _ | with_reducible refine bel_step (by assumption) (by first | omega | (simp; done) | (simp; omega)) ?_ | with_reducible refine bel_grown (by assumption) (by first | omega | (simp; done) | (simp; omega)) (by first | omega | (simp; done) | (simp; omega)) ?_))
  have cu1 : Cu w1 B 0 := by rw [hw1, hB]; exact Cu.start h _
  have HW := Lib.hid hw1.symm
  have HB := Lib.hid hB.symm
  have hBw : w.heap.size ≤ B := by omega
  clear hw1 hB h
  go_enter Try.func55, Try.ntmps55
  go_wp2_with fail
  rw [HW.out, HB.out]
  refine (C_reviews B 0 w1 cu1 (by omega)).mono ?_; rintro e w2 ⟨u, m, R, rfl, hm, hS⟩
  have HS := Lib.hid hS
  have hl2 := hS.cu.lt
  clear hS HW HB cu1
  go_wp2_with fail
  obtain ⟨g, hg⟩ : ∃ g, g = w2.heap.size := ⟨_, rfl⟩
  obtain ⟨w3, hw3⟩ : ∃ w3, w3 = w2.alloc (.cells #[.int .i64 0, .int .i64 1, .int .i64 2, .int .i64 3, .int .i64 (-1), .int .i64 4] 3) := ⟨_, rfl⟩
  have rg : w3.rowIs g 3 6 (fun j => (#[.int .i64 0, .int .i64 1, .int .i64 2, .int .i64 3, .int .i64 (-1), .int .i64 4]).getD j undef) := by rw [hw3, hg]; exact row_lit w2 _ _
  have S3 := Lib.hid (show LS B 300 w1 w3 u m R by rw [hw3]; exact HS.out.alloc _)
  have RG := Lib.hid rg
  have HG := Lib.hid hg.symm
  have HW3 := Lib.hid hw3.symm
  have hgB : g ≠ B := by omega
  clear rg hg hw3 HS hl2
  rw [HG.out, HW3.out]
  clear HG HW3
  refine (C_pick B _ 24 w3 S3.out.cu (by omega) (by omega) (by omega)).mono ?_; rintro e w4 ⟨a, rfl, ⟨ha0, ha1⟩, cu4, hb4⟩
  have S4 := Lib.hid (S3.out.step (Chg.of_grown hb4) cu4)
  have R4 := Lib.hid (RG.out.of_block (hb4.block g RG.out.lt (by intro e; injection e with e; exact hgB e)))
  clear cu4 hb4 RG S3
  obtain ⟨q, hq⟩ : ∃ q : Nat, (q : Int) = a / 11 := ⟨(a / 11).toNat, by omega⟩
  have hq2 : q ≤ 2 := by omega
  have hd1 : (0 : Int) ≤ 4 + a / 11 := by omega
  have hd2 : 4 + a / 11 ≤ 6 := by omega
  have hd3 : (4 + a / 11).toNat = 4 + q := by omega
  go_wp2_with fail
  refine (C_amongR B _ #[.int .i64 0, .int .i64 1, .int .i64 2, .int .i64 3, .int .i64 (-1), .int .i64 4] (4 + q) _ g w4 3 R4.out hgB S4.out.cu (by omega) (by omega) (by simp; omega) (by omega) i64B (by rfl)).mono ?_; rintro e w5 ⟨d, rfl, hd, cu5, hb5⟩
  have S5 := Lib.hid (S4.out.step (Chg.of_grown hb5) cu5)
  clear cu5 hb5 S4 R4 hd1 hd2 hd3 hq
  go_wp2_with fail
  go_ret2
  exact ⟨_, m, R, d, rfl, hm, i64_of hd, S5.out.lr.rrs, bel_chg S5.out.ch hBw b1⟩
set_option maxHeartbeats 1000000 in
theorem C_DrawLateReviews (v : Value) (n : Nat) (w : World) (h : SU w v n) :
    Calls Try.prog 65 #[v] w fun e w' => ∃ (u : Value) (m : Nat) (R : Nat → Rl) (d : Int), e = .returned (.tuple #[u, .int .i64 d]) ∧ m ≤ 11 ∧ I64 d ∧ RRs w' u m (fun j => (R j).rv) ∧ Below w.heap.size w w' := by
  obtain ⟨A, cap, rfl⟩ := h.form
  obtain ⟨B, hB⟩ : ∃ B, B = w.heap.size := ⟨_, rfl⟩
  obtain ⟨w1, hw1⟩ : ∃ w1, w1 = w.alloc (.cells #[.slice A n cap, .int .i64 0, .int .u64 0] 91) := ⟨_, rfl⟩
  have b1 : Below w.heap.size w w1 := by rw [hw1]; (repeat (first | with_reducible exact Below.refl _ _ | with_reducible exact below_regrown _ _ _ | with_reducible refine bel_step0 (by assumption) ?_ | with_reducible refine bel_alloc0 ?_ _ | with_reducible refine bel_regrown0 ?_ _ _ | with_reducible refine bel_regrown ?_ (by first | omega | (simp; done) | (simp; omega)) _ _ | with_reducible refine below_drewN ?_ _ | with_reducible refine Below.drew ?_ | with_reducible refine Below.alloc ?_ (by first | omega | (simp; done) | (simp; omega)) _ | with_reducible refine Below.setCell ?_ (by first | omega | (simp; done) | (simp; omega)) _ | with_reducible refine bel_step (by assumption) (by first | omega | (simp; done) | (simp; omega)) ?_ | with_reducible refine bel_grown (by assumption) (by first | omega | (simp; done) | (simp; omega)) (by first | omega | (simp; done) | (simp; omega)) ?_))
  have cu1 : Cu w1 B 0 := by rw [hw1, hB]; exact Cu.start h _
  have HW := Lib.hid hw1.symm
  have HB := Lib.hid hB.symm
  have hBw : w.heap.size ≤ B := by omega
  clear hw1 hB h
  go_enter Try.func65, Try.ntmps65
  go_wp2_with fail
  rw [HW.out, HB.out]
  refine (C_reviews B 0 w1 cu1 (by omega)).mono ?_; rintro e w2 ⟨u, m, R, rfl, hm, hS⟩
  have HS := Lib.hid hS
  have hl2 := hS.cu.lt
  clear hS HW HB cu1
  go_wp2_with fail
  obtain ⟨g, hg⟩ : ∃ g, g = w2.heap.size := ⟨_, rfl⟩
  obtain ⟨w3, hw3⟩ : ∃ w3, w3 = w2.alloc (.cells #[.int .i64 0, .int .i64 10, .int .i64 11, .int .i64 20000, .int .i64 20000, .int .i64 (-1), .int .i64 20001] 3) := ⟨_, rfl⟩
  have rg : w3.rowIs g 3 7 (fun j => (#[.int .i64 0, .int .i64 10, .int .i64 11, .int .i64 20000, .int .i64 20000, .int .i64 (-1), .int .i64 20001]).getD j undef) := by rw [hw3, hg]; exact row_lit w2 _ _
  have S3 := Lib.hid (show LS B 300 w1 w3 u m R by rw [hw3]; exact HS.out.alloc _)
  have RG := Lib.hid rg
  have HG := Lib.hid hg.symm
  have HW3 := Lib.hid hw3.symm
  have hgB : g ≠ B := by omega
  clear rg hg hw3 HS hl2
  rw [HG.out, HW3.out]
  clear HG HW3
  refine (C_pick B _ 24 w3 S3.out.cu (by omega) (by omega) (by omega)).mono ?_; rintro e w4 ⟨a, rfl, ⟨ha0, ha1⟩, cu4, hb4⟩
  have S4 := Lib.hid (S3.out.step (Chg.of_grown hb4) cu4)
  have R4 := Lib.hid (RG.out.of_block (hb4.block g RG.out.lt (by intro e; injection e with e; exact hgB e)))
  clear cu4 hb4 RG S3
  obtain ⟨q, hq⟩ : ∃ q : Nat, (q : Int) = a / 11 := ⟨(a / 11).toNat, by omega⟩
  have hq2 : q ≤ 2 := by omega
  have hd1 : (0 : Int) ≤ 5 + a / 11 := by omega
  have hd2 : 5 + a / 11 ≤ 7 := by omega
  have hd3 : (5 + a / 11).toNat = 5 + q := by omega
  go_wp2_with fail
  refine (C_amongR B _ #[.int .i64 0, .int .i64 10, .int .i64 11, .int .i64 20000, .int .i64 20000, .int .i64 (-1), .int .i64 20001] (5 + q) _ g w4 3 R4.out hgB S4.out.cu (by omega) (by omega) (by simp; omega) (by omega) i64B (by rfl)).mono ?_; rintro e w5 ⟨d, rfl, hd, cu5, hb5⟩
  have S5 := Lib.hid (S4.out.step (Chg.of_grown hb5) cu5)
  clear cu5 hb5 S4 R4 hd1 hd2 hd3 hq
  go_wp2_with fail
  go_ret2
  exact ⟨_, m, R, d, rfl, hm, i64_of hd, S5.out.lr.rrs, bel_chg S5.out.ch hBw b1⟩
theorem oi_si {base : Nat} {w : World} {v : Value} {xs : List Int} (h : OI base w v xs) : SI w v xs.length (ai xs) := h.wi.si
set_option maxHeartbeats 1000000 in
theorem C_DrawIsReview (v : Value) (n : Nat) (w : World) (h : SU w v n) :
    Calls Try.prog 99 #[v] w fun e w' => ∃ (x : Rl) (u : Value), e = .returned (.agg #[.int .i64 x.rid, .int .i64 x.due, u]) ∧ OI w.heap.size w' u x.vs ∧ x.vs.length ≤ 7 ∧ Below w.heap.size w w' := by
  obtain ⟨A, cap, rfl⟩ := h.form
  obtain ⟨w0, hw0⟩ : ∃ w0, w0 = w.alloc (.cells #[.int .i64 0, .int .i64 0, .slice none 0 0] 27) := ⟨_, rfl⟩
  obtain ⟨B, hB⟩ : ∃ B, B = w.heap.size + 1 := ⟨_, rfl⟩
  obtain ⟨w1, hw1⟩ : ∃ w1, w1 = w0.alloc (.cells #[.slice A n cap, .int .i64 0, .int .u64 0] 91) := ⟨_, rfl⟩
  have b0 : Below w.heap.size w w0 := by rw [hw0]; (repeat (first | with_reducible exact Below.refl _ _ | with_reducible exact below_regrown _ _ _ | with_reducible refine bel_step0 (by assumption) ?_ | with_reducible refine bel_alloc0 ?_ _ | with_reducible refine bel_regrown0 ?_ _ _ | with_reducible refine bel_regrown ?_ (by first | omega | (simp; done) | (simp; omega)) _ _ | with_reducible refine below_drewN ?_ _ | with_reducible refine Below.drew ?_ | with_reducible refine Below.alloc ?_ (by first | omega | (simp; done) | (simp; omega)) _ | with_reducible refine Below.setCell ?_ (by first | omega | (simp; done) | (simp; omega)) _ | with_reducible refine bel_step (by assumption) (by first | omega | (simp; done) | (simp; omega)) ?_ | with_reducible refine bel_grown (by assumption) (by first | omega | (simp; done) | (simp; omega)) (by first | omega | (simp; done) | (simp; omega)) ?_))
  have z0 : w0.heap.size = B := by rw [hw0, hB]; simp
  have b1 : Below w.heap.size w w1 := by rw [hw1]; exact bel_alloc0 b0 _
  have cu1 : Cu w1 B 0 := by rw [hw1, ← z0]; exact Cu.start (h.below b0) _
  have r1 : w1.rowIs w.heap.size 27 3 (c3v 0 0 (.slice none 0 0)) := by rw [hw1, hw0]; exact row_alloc (row3_alloc w _ 0 0 _) _
  have HW := Lib.hid (show (w.alloc (.cells #[.int .i64 0, .int .i64 0, .slice none 0 0] 27)).alloc (.cells #[.slice A n cap, .int .i64 0, .int .u64 0] 91) = w1 by rw [hw1, hw0])
  have z1 : w1.heap.size = B + 1 := by rw [hw1, World.size_alloc, z0]
  have HZ := Lib.hid z1
  have HB := Lib.hid hB.symm
  have HR := Lib.hid r1
  have hBw : w.heap.size < B := by omega
  clear hw1 hw0 hB h z0 b0 r1 z1
  go_enter Try.func99, Try.ntmps99
  go_wp2_with fail
  rw [HW.out, HB.out]
  refine (C_amongL B 0 _ 3 3 _ w1 _ HZ.out cu1 (by omega) (by omega) (by decide) (by omega) anyI (by rfl)).mono ?_; rintro e w2 ⟨y, rfl, _, cu2, hb2⟩
  have R2 := Lib.hid (row_chg HR.out (Chg.of_grown hb2) (.inl hBw))
  have b2 := bel_chg (Chg.of_grown hb2) (Nat.le_of_lt hBw) b1
  clear hb2 cu1 HR b1 HW HZ
  go_wp2_with fail
  refine (C_review B _ _ _ cu2 (by omega)).mono ?_; rintro e w4 ⟨x, u, rfl, hou, hxl, cu4, hb4⟩
  have h0 := row_chg R2.out (Chg.of_grown hb4) (.inl hBw)
  have b4 := bel_chg (Chg.of_grown hb4) (Nat.le_of_lt hBw) b2
  have hlt2 := R2.out.lt
  have HU := Lib.hid hou
  obtain ⟨UA, uc, rfl⟩ := hou.form
  have y0 := h0.cell (i := 0) (by omega)
  have y1 := h0.cell (i := 1) (by omega)
  have y2 := h0.cell (i := 2) (by omega)
  have v0 := h0.frozen 0
  have v1 := h0.frozen 1
  have v2 := h0.frozen 2
  clear R2 cu2 cu4 hb4 h0 hou HB b2
  go_wp2_with fail
  go_light; refine bodyPost_ret (by simp (maxDischargeDepth := 3) [results, Try.results99, go_sem, *]; try rfl) rfl ?_; refine ⟨x, _, rfl, ?_, hxl, ?_⟩
  · refine OI.mono (base := w2.heap.size) (by omega) ?_
    exact ((HU.out.setFar (p := ⟨w.heap.size, 0, none⟩) hlt2 _).setFar (p := ⟨w.heap.size, 1, none⟩) hlt2 _).setFar (p := ⟨w.heap.size, 2, none⟩) hlt2 _
  · (repeat (first | with_reducible assumption | with_reducible refine Below.drew ?_ | with_reducible refine bel_alloc0 ?_ _ | with_reducible refine Below.setCell ?_ (by first | omega | (simp; done) | (simp; omega)) _))
set_option maxHeartbeats 1000000 in
theorem C_DrawVerdictOf (v : Value) (n : Nat) (w : World) (h : SU w v n) :
    Calls Try.prog 57 #[v] w fun e w' => ∃ (x : Rl) (u : Value), e = .returned (.agg #[.int .i64 x.rid, .int .i64 x.due, u]) ∧ OI w.heap.size w' u x.vs ∧ x.vs.length ≤ 7 ∧ Below w.heap.size w w' := by
  obtain ⟨w0, hw0⟩ : ∃ w0, w0 = w.alloc (.cells #[.int .i64 0, .int .i64 0, .slice none 0 0] 27) := ⟨_, rfl⟩
  have b0 : Below w.heap.size w w0 := by rw [hw0]; (repeat (first | with_reducible exact Below.refl _ _ | with_reducible exact below_regrown _ _ _ | with_reducible refine bel_step0 (by assumption) ?_ | with_reducible refine bel_alloc0 ?_ _ | with_reducible refine bel_regrown0 ?_ _ _ | with_reducible refine bel_regrown ?_ (by first | omega | (simp; done) | (simp; omega)) _ _ | with_reducible refine below_drewN ?_ _ | with_reducible refine Below.drew ?_ | with_reducible refine Below.alloc ?_ (by first | omega | (simp; done) | (simp; omega)) _ | with_reducible refine Below.setCell ?_ (by first | omega | (simp; done) | (simp; omega)) _ | with_reducible refine bel_step (by assumption) (by first | omega | (simp; done) | (simp; omega)) ?_ | with_reducible refine bel_grown (by assumption) (by first | omega | (simp; done) | (simp; omega)) (by first | omega | (simp; done) | (simp; omega)) ?_))
  have r1 : w0.rowIs w.heap.size 27 3 (c3v 0 0 (.slice none 0 0)) := by rw [hw0]; exact row3_alloc w _ 0 0 _
  have HW := Lib.hid hw0.symm
  have HR := Lib.hid r1
  have h1 := h.below b0
  clear hw0 h r1
  go_enter Try.func57, Try.ntmps57
  go_wp2_with fail
  rw [HW.out]
  refine (C_DrawIsReview _ n w0 h1).mono ?_; rintro e w4 ⟨x, u, rfl, hou, hxl, hb4⟩
  have h0 := HR.out.of_block (hb4.block _ HR.out.lt)
  have b4 := bel_step0 hb4 b0
  have hlt2 := HR.out.lt
  have HU := Lib.hid hou
  obtain ⟨UA, uc, rfl⟩ := hou.form
  have y0 := h0.cell (i := 0) (by omega)
  have y1 := h0.cell (i := 1) (by omega)
  have y2 := h0.cell (i := 2) (by omega)
  have v0 := h0.frozen 0
  have v1 := h0.frozen 1
  have v2 := h0.frozen 2
  clear hb4 h0 hou HW HR b0 h1
  go_wp2_with fail
  go_light; refine bodyPost_ret (by simp (maxDischargeDepth := 3) [results, Try.results57, go_sem, *]; try rfl) rfl ?_; refine ⟨x, _, rfl, ?_, hxl, ?_⟩
  · refine OI.mono (base := w0.heap.size) (by omega) ?_
    exact ((HU.out.setFar (p := ⟨w.heap.size, 0, none⟩) hlt2 _).setFar (p := ⟨w.heap.size, 1, none⟩) hlt2 _).setFar (p := ⟨w.heap.size, 2, none⟩) hlt2 _
  · (repeat (first | with_reducible assumption | with_reducible refine Below.drew ?_ | with_reducible refine bel_alloc0 ?_ _ | with_reducible refine Below.setCell ?_ (by first | omega | (simp; done) | (simp; omega)) _))
end Go.Proofs.Ytcdffikambbleaa
