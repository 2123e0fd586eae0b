/- What the law FnLooks draws. No condition but those stated. -/
import Derived.Test.YtmhelhjjadoiaaaGreatDoorGlB
namespace Go.Proofs.YtmhelhjjadoiaaaGreatDoor
set_option linter.unusedVariables false
set_option linter.unusedSimpArgs false
open Go.RowKit Go.Sort
/-- A drawn list of looks. -/
def DK (w : World) (v : Value) (n : Nat) (R : Nat → Lk) : Prop := LKs w v n R ∧ n ≤ 16 ∧ ∀ j, smK (R j) = true
theorem DK.below {w w' : World} {v : Value} {n : Nat} {R : Nat → Lk} (hb : Below w.heap.size w w') (h : DK w v n R) : DK w' v n R := ⟨h.1.below hb, h.2⟩
theorem DK.s63 {w : World} {v : Value} {n : Nat} {R : Nat → Lk} (h : DK w v n R) : ∀ j, j < n → (R j).why.size ≤ 9223372036854775807 := fun j _ => by have := (smK_of (h.2.2 j)).2; omega
theorem DK.form {w : World} {v : Value} {n : Nat} {R : Nat → Lk} (h : DK w v n R) : ∃ A cap, v = .slice A n cap := by obtain ⟨⟨A, cap, e, _⟩, _⟩ := h; exact ⟨A, cap, e⟩
theorem smK_at {l : List Lk} (h : ∀ x ∈ l, smK x = true) (j : Nat) : smK (atK l j) = true := by
  by_cases hj : j < l.length
  · exact h _ (atK_mem hj)
  · unfold atK
    rw [List.getD_eq_getElem?_getD, List.getElem?_eq_none (by omega)]; rfl
theorem LL.dk {B m : Nat} {w W : World} {v : Value} {l : List Lk} (h : LL B m w W v l) (hl : l.length ≤ 16) : DK W v l.length (atK l) := ⟨h.ol.lks, hl, smK_at h.sz⟩
set_option maxHeartbeats 2000000 in
theorem C_DrawIsAccount (v : Value) (n : Nat) (w : World) (h : SU w v n) :
    Calls Tryz.prog 67 #[v] w fun e w' => ∃ (u : Value) (m : Nat) (R : Nat → Lk), e = .returned u ∧ DK w' u m R ∧ Below w.heap.size w w' := by
  obtain ⟨A, cap, rfl⟩ := h.form
  obtain ⟨B, hB⟩ : ∃ B, B = w.heap.size := ⟨_, rfl⟩
  obtain ⟨w1, hw1⟩ : ∃ w1, w1 = w.alloc (.cells #[.slice A n cap, .int .i64 0, .int .u64 0] 71) := ⟨_, rfl⟩
  have b1 : Below w.heap.size w w1 := by rw [hw1]; (repeat (first | with_reducible exact Below.refl _ _ | with_reducible exact below_regrown _ _ _ | with_reducible refine bel_step0 (by assumption) ?_ | with_reducible refine bel_alloc0 ?_ _ | with_reducible refine bel_regrown0 ?_ _ _ | with_reducible refine bel_regrown ?_ (by first | omega | (simp; done) | (simp; omega)) _ _ | with_reducible refine below_drewN ?_ _ | with_reducible refine Below.drew ?_ | with_reducible refine Below.alloc ?_ (by first | omega | (simp; done) | (simp; omega)) _ | with_reducible refine Below.setCell ?_ (by first | omega | (simp; done) | (simp; omega)) _ | with_reducible refine bel_step (by assumption) (by first | omega | (simp; done) | (simp; omega)) ?_ | with_reducible refine bel_grown (by assumption) (by first | omega | (simp; done) | (simp; omega)) (by first | omega | (simp; done) | (simp; omega)) ?_))
  have cu1 : Cu w1 B 0 := by rw [hw1, hB]; exact Cu.start h _
  have HW := Lib.hid hw1.symm
  have HB := Lib.hid hB.symm
  have hBw : w.heap.size ≤ B := by omega
  clear hw1 hB h
  go_enter Tryz.func67, Tryz.ntmps67
  go_wp2_with fail
  rw [HW.out, HB.out]
  refine (C_looks B 0 w1 cu1 (by omega)).mono ?_; rintro e w2 ⟨u, l, rfl, hl, hL⟩
  obtain ⟨m, hm⟩ : ∃ m, l.length = m := ⟨_, rfl⟩
  obtain ⟨UA, uc, rfl⟩ : ∃ A c, u = .slice A m c := by obtain ⟨A, c, e⟩ := hL.ol.form; exact ⟨A, c, by rw [e, hm]⟩
  have HM := Lib.hid hm
  have HL := Lib.hid hL
  clear cu1 HW hL hm HB
  go_wp2_with fail
  go_ret
  exact ⟨_, m, atK l, rfl, by rw [← HM.out]; rw [← HM.out] at HL; exact HL.out.dk hl, bel_chg HL.out.ch hBw b1⟩
set_option maxHeartbeats 2000000 in
theorem C_DrawWhoSaw (v : Value) (n : Nat) (w : World) (h : SU w v n) :
    Calls Tryz.prog 39 #[v] w fun e w' => ∃ (u : Value) (m : Nat) (R : Nat → Lk) (x : Int), e = .returned (.tuple #[u, .int .i64 x]) ∧ DK w' u m R ∧ sm7 x = true ∧ Below w.heap.size w w' := by
  obtain ⟨A, cap, rfl⟩ := h.form
  obtain ⟨B, hB⟩ : ∃ B, B = w.heap.size := ⟨_, rfl⟩
  obtain ⟨w1, hw1⟩ : ∃ w1, w1 = w.alloc (.cells #[.slice A n cap, .int .i64 0, .int .u64 0] 71) := ⟨_, rfl⟩
  have b1 : Below w.heap.size w w1 := by rw [hw1]; (repeat (first | with_reducible exact Below.refl _ _ | with_reducible exact below_regrown _ _ _ | with_reducible refine bel_step0 (by assumption) ?_ | with_reducible refine bel_alloc0 ?_ _ | with_reducible refine bel_regrown0 ?_ _ _ | with_reducible refine bel_regrown ?_ (by first | omega | (simp; done) | (simp; omega)) _ _ | with_reducible refine below_drewN ?_ _ | with_reducible refine Below.drew ?_ | with_reducible refine Below.alloc ?_ (by first | omega | (simp; done) | (simp; omega)) _ | with_reducible refine Below.setCell ?_ (by first | omega | (simp; done) | (simp; omega)) _ | with_reducible refine bel_step (by assumption) (by first | omega | (simp; done) | (simp; omega)) ?_ | with_reducible refine bel_grown (by assumption) (by first | omega | (simp; done) | (simp; omega)) (by first | omega | (simp; done) | (simp; omega)) ?_))
  have cu1 : Cu w1 B 0 := by rw [hw1, hB]; exact Cu.start h _
  have HW := Lib.hid hw1.symm
  have HB := Lib.hid hB.symm
  have hBw : w.heap.size ≤ B := by omega
  clear hw1 hB h
  go_enter Tryz.func39, Tryz.ntmps39
  go_wp2_with fail
  rw [HW.out, HB.out]
  refine (C_looks B 0 w1 cu1 (by omega)).mono ?_; rintro e w2 ⟨u, l, rfl, hl, hL⟩
  obtain ⟨m, hm⟩ : ∃ m, l.length = m := ⟨_, rfl⟩
  obtain ⟨UA, uc, rfl⟩ : ∃ A c, u = .slice A m c := by obtain ⟨A, c, e⟩ := hL.ol.form; exact ⟨A, c, by rw [e, hm]⟩
  have HM := Lib.hid hm
  have HL := Lib.hid hL
  clear cu1 HW hL hm HB
  go_wp2_with fail
  refine (C_record17 B _ w2 HL.out.cu (by omega)).mono ?_; rintro e w3 ⟨x, rfl, hx, cu3, hb3⟩
  have L3 := Lib.hid (HL.out.step (Chg.of_grown hb3) cu3)
  have HX := Lib.hid hx
  clear HL cu3 hb3 hx
  go_wp2_with fail
  go_ret2
  exact ⟨_, m, atK l, x, rfl, by rw [← HM.out]; rw [← HM.out] at L3; exact L3.out.dk hl, HX.out, bel_chg L3.out.ch hBw b1⟩
theorem C_DrawLastChange (v : Value) (n : Nat) (w : World) (h : SU w v n) :
    Calls Tryz.prog 6 #[v] w fun e w' => ∃ (u : Value) (m : Nat) (R : Nat → Lk) (x : Int), e = .returned (.tuple #[u, .int .i64 x]) ∧ DK w' u m R ∧ sm7 x = true ∧ Below w.heap.size w w' := by
  go_enter Tryz.func6, Tryz.ntmps6
  go_wp2_with fail
  refine (C_DrawWhoSaw v n w h).mono ?_; rintro e w2 ⟨u, m, R, x, rfl, hd, hx, hb⟩
  have HX := Lib.hid (And.intro hx hd)
  clear hx hd
  go_wp2_with fail
  go_ret2
  exact ⟨_, m, R, x, rfl, HX.out.2, HX.out.1, hb⟩
set_option maxHeartbeats 4000000 in
theorem C_DrawLongestBurst (v : Value) (n : Nat) (w : World) (h : SU w v n) :
    Calls Tryz.prog 15 #[v] w fun e w' => ∃ (u : Value) (m : Nat) (R : Nat → Lk) (x y : Int), e = .returned (.tuple #[u, .int .i64 x, .int .i64 y]) ∧ DK w' u m R ∧ sm7 x = true ∧ sm7 y = true ∧ Below w.heap.size w w' := by
  obtain ⟨A, cap, rfl⟩ := h.form
  obtain ⟨B, hB⟩ : ∃ B, B = w.heap.size := ⟨_, rfl⟩
  obtain ⟨w1, hw1⟩ : ∃ w1, w1 = w.alloc (.cells #[.slice A n cap, .int .i64 0, .int .u64 0] 71) := ⟨_, rfl⟩
  have b1 : Below w.heap.size w w1 := by rw [hw1]; (repeat (first | with_reducible exact Below.refl _ _ | with_reducible exact below_regrown _ _ _ | with_reducible refine bel_step0 (by assumption) ?_ | with_reducible refine bel_alloc0 ?_ _ | with_reducible refine bel_regrown0 ?_ _ _ | with_reducible refine bel_regrown ?_ (by first | omega | (simp; done) | (simp; omega)) _ _ | with_reducible refine below_drewN ?_ _ | with_reducible refine Below.drew ?_ | with_reducible refine Below.alloc ?_ (by first | omega | (simp; done) | (simp; omega)) _ | with_reducible refine Below.setCell ?_ (by first | omega | (simp; done) | (simp; omega)) _ | with_reducible refine bel_step (by assumption) (by first | omega | (simp; done) | (simp; omega)) ?_ | with_reducible refine bel_grown (by assumption) (by first | omega | (simp; done) | (simp; omega)) (by first | omega | (simp; done) | (simp; omega)) ?_))
  have cu1 : Cu w1 B 0 := by rw [hw1, hB]; exact Cu.start h _
  have HW := Lib.hid hw1.symm
  have HB := Lib.hid hB.symm
  have hBw : w.heap.size ≤ B := by omega
  clear hw1 hB h
  go_enter Tryz.func15, Tryz.ntmps15
  go_wp2_with fail
  rw [HW.out, HB.out]
  refine (C_looks B 0 w1 cu1 (by omega)).mono ?_; rintro e w2 ⟨u, l, rfl, hl, hL⟩
  obtain ⟨m, hm⟩ : ∃ m, l.length = m := ⟨_, rfl⟩
  obtain ⟨UA, uc, rfl⟩ : ∃ A c, u = .slice A m c := by obtain ⟨A, c, e⟩ := hL.ol.form; exact ⟨A, c, by rw [e, hm]⟩
  have HM := Lib.hid hm
  have HL := Lib.hid hL
  clear cu1 HW hL hm HB
  have L2 := HL
  clear HL
  go_wp2_with fail
  obtain ⟨g2, hg⟩ : ∃ g, g = w2.heap.size := ⟨_, rfl⟩
  obtain ⟨wa2, hwa⟩ : ∃ wa, wa = w2.alloc (.cells #[.int .i64 1, .int .i64 1, .int .i64 2, .int .i64 99, .int .i64 50, .int .i64 0, .int .i64 100] 3) := ⟨_, rfl⟩
  have rg : wa2.rowIs g2 3 7 (fun j => (#[.int .i64 1, .int .i64 1, .int .i64 2, .int .i64 99, .int .i64 50, .int .i64 0, .int .i64 100] : Array Value).getD j undef) := by rw [hwa, hg]; exact row_lit w2 _ _
  have La2 := Lib.hid (show LL B _ w1 wa2 _ l by rw [hwa]; exact L2.out.alloc _)
  have hgB2 : g2 ≠ B := by have := L2.out.cu.lt; omega
  have HWA := Lib.hid hwa.symm
  have HG := Lib.hid hg.symm
  have RG2 := Lib.hid rg
  clear hwa hg rg L2
  rw [HWA.out, HG.out]
  clear HWA HG
  refine (C_pick B _ 24 wa2 La2.out.cu (by omega) (by omega) (by omega)).mono ?_; rintro e wb2 ⟨a, rfl, ⟨ha0, ha1⟩, cub, hbb⟩
  have R2 := Lib.hid (RG2.out.of_block (hbb.block g2 RG2.out.lt (by intro e; injection e with e; exact hgB2 e)))
  have Lb2 := Lib.hid (La2.out.step (Chg.of_grown hbb) cub)
  clear hbb cub La2 RG2
  obtain ⟨q, hq⟩ : ∃ q : Nat, (q : Int) = a / 11 := ⟨(a / 11).toNat, by omega⟩
  have hq2 : q ≤ 2 := by omega
  have hd1 : (0 : Int) ≤ 5 + a / 11 := by omega
  have hd2 : 5 + a / 11 ≤ 7 := by omega
  have hd3 : (5 + a / 11).toNat = 5 + q := by omega
  go_wp2_with fail
  refine (C_amongR B _ #[.int .i64 1, .int .i64 1, .int .i64 2, .int .i64 99, .int .i64 50, .int .i64 0, .int .i64 100] (5 + q) _ g2 wb2 3 R2.out hgB2 Lb2.out.cu (by omega) (by omega) (by simp; omega) (by omega) sm7 (by decide)).mono ?_; rintro e wc2 ⟨x2, rfl, hx, cuc, hbc⟩
  have HX2 := Lib.hid hx
  have Lc2 := Lib.hid (Lb2.out.step (Chg.of_grown hbc) cuc)
  clear hx hd1 hd2 hd3 hq cuc hbc R2 Lb2 hq2 ha0 ha1
  obtain ⟨w3, hw3⟩ : ∃ w3, w3 = wc2 := ⟨_, rfl⟩
  rw [← hw3] at Lc2 ⊢
  have L3 := Lc2
  clear Lc2 hw3
  go_wp2_with fail
  obtain ⟨g3, hg⟩ : ∃ g, g = w3.heap.size := ⟨_, rfl⟩
  obtain ⟨wa3, hwa⟩ : ∃ wa, wa = w3.alloc (.cells #[.int .i64 1, .int .i64 5, .int .i64 6, .int .i64 12, .int .i64 1000000, .int .i64 0, .int .i64 1000001] 3) := ⟨_, rfl⟩
  have rg : wa3.rowIs g3 3 7 (fun j => (#[.int .i64 1, .int .i64 5, .int .i64 6, .int .i64 12, .int .i64 1000000, .int .i64 0, .int .i64 1000001] : Array Value).getD j undef) := by rw [hwa, hg]; exact row_lit w3 _ _
  have La3 := Lib.hid (show LL B _ w1 wa3 _ l by rw [hwa]; exact L3.out.alloc _)
  have hgB3 : g3 ≠ B := by have := L3.out.cu.lt; omega
  have HWA := Lib.hid hwa.symm
  have HG := Lib.hid hg.symm
  have RG3 := Lib.hid rg
  clear hwa hg rg L3
  rw [HWA.out, HG.out]
  clear HWA HG
  refine (C_pick B _ 24 wa3 La3.out.cu (by omega) (by omega) (by omega)).mono ?_; rintro e wb3 ⟨a, rfl, ⟨ha0, ha1⟩, cub, hbb⟩
  have R3 := Lib.hid (RG3.out.of_block (hbb.block g3 RG3.out.lt (by intro e; injection e with e; exact hgB3 e)))
  have Lb3 := Lib.hid (La3.out.step (Chg.of_grown hbb) cub)
  clear hbb cub La3 RG3
  obtain ⟨q, hq⟩ : ∃ q : Nat, (q : Int) = a / 11 := ⟨(a / 11).toNat, by omega⟩
  have hq2 : q ≤ 2 := by omega
  have hd1 : (0 : Int) ≤ 5 + a / 11 := by omega
  have hd2 : 5 + a / 11 ≤ 7 := by omega
  have hd3 : (5 + a / 11).toNat = 5 + q := by omega
  go_wp2_with fail
  refine (C_amongR B _ #[.int .i64 1, .int .i64 5, .int .i64 6, .int .i64 12, .int .i64 1000000, .int .i64 0, .int .i64 1000001] (5 + q) _ g3 wb3 3 R3.out hgB3 Lb3.out.cu (by omega) (by omega) (by simp; omega) (by omega) sm7 (by decide)).mono ?_; rintro e wc3 ⟨x3, rfl, hx, cuc, hbc⟩
  have HX3 := Lib.hid hx
  have Lc3 := Lib.hid (Lb3.out.step (Chg.of_grown hbc) cuc)
  clear hx hd1 hd2 hd3 hq cuc hbc R3 Lb3 hq2 ha0 ha1
  go_wp2_with fail
  go_ret3
  exact ⟨_, m, atK l, x2, x3, rfl, by rw [← HM.out]; rw [← HM.out] at Lc3; exact Lc3.out.dk hl, HX2.out, HX3.out, bel_chg Lc3.out.ch hBw b1⟩
set_option maxHeartbeats 2000000 in
theorem C_DrawIsLook (v : Value) (n : Nat) (w : World) (h : SU w v n) :
    Calls Tryz.prog 55 #[v] w fun e w' => ∃ x : Lk, e = .returned (.agg #[.int .i64 (x).tick, .int .i64 (x).who, .int .i64 (x).rid, .int .i64 (x).kind, .string (x).why]) ∧ smK x = true ∧ Below w.heap.size w w' := by
  obtain ⟨A, cap, rfl⟩ := h.form
  obtain ⟨w0, hw0⟩ : ∃ w0, w0 = w.alloc (.cells #[.int .i64 0, .int .i64 0, .int .i64 0, .int .i64 0, .string (⟨#[]⟩ : ByteArray)] 37) := ⟨_, rfl⟩
  obtain ⟨B, hB⟩ : ∃ B, B = w.heap.size + 1 := ⟨_, rfl⟩
  obtain ⟨w1, hw1⟩ : ∃ w1, w1 = w0.alloc (.cells #[.slice A n cap, .int .i64 0, .int .u64 0] 71) := ⟨_, rfl⟩
  have b0 : Below w.heap.size w w0 := by rw [hw0]; (repeat (first | with_reducible exact Below.refl _ _ | with_reducible exact below_regrown _ _ _ | with_reducible refine bel_step0 (by assumption) ?_ | with_reducible refine bel_alloc0 ?_ _ | with_reducible refine bel_regrown0 ?_ _ _ | with_reducible refine bel_regrown ?_ (by first | omega | (simp; done) | (simp; omega)) _ _ | with_reducible refine below_drewN ?_ _ | with_reducible refine Below.drew ?_ | with_reducible refine Below.alloc ?_ (by first | omega | (simp; done) | (simp; omega)) _ | with_reducible refine Below.setCell ?_ (by first | omega | (simp; done) | (simp; omega)) _ | with_reducible refine bel_step (by assumption) (by first | omega | (simp; done) | (simp; omega)) ?_ | with_reducible refine bel_grown (by assumption) (by first | omega | (simp; done) | (simp; omega)) (by first | omega | (simp; done) | (simp; omega)) ?_))
  have z0 : w0.heap.size = B := by rw [hw0, hB]; simp
  have b1 : Below w.heap.size w w1 := by rw [hw1]; exact bel_alloc0 b0 _
  have cu1 : Cu w1 B 0 := by rw [hw1, ← z0]; exact Cu.start (h.below b0) _
  have r1 : w1.rowIs w.heap.size 37 5 (cK (⟨0, 0, 0, 0, (⟨#[]⟩ : ByteArray)⟩ : Lk)) := by rw [hw1, hw0]; exact row_alloc (row5_alloc w _ (⟨0, 0, 0, 0, (⟨#[]⟩ : ByteArray)⟩ : Lk)) _
  have HW := Lib.hid (show (w.alloc (.cells #[.int .i64 0, .int .i64 0, .int .i64 0, .int .i64 0, .string (⟨#[]⟩ : ByteArray)] 37)).alloc (.cells #[.slice A n cap, .int .i64 0, .int .u64 0] 71) = w1 by rw [hw1, hw0])
  have z1 : w1.heap.size = B + 1 := by rw [hw1, World.size_alloc, z0]
  have HZ := Lib.hid z1
  have HB := Lib.hid hB.symm
  have HR := Lib.hid r1
  have hBw : w.heap.size < B := by omega
  clear hw1 hw0 hB h z0 b0 r1 z1
  go_enter Tryz.func55, Tryz.ntmps55
  go_wp2_with fail
  rw [HW.out, HB.out]
  refine (C_amongLc B 0 _ 3 3 _ w1 _ HZ.out cu1 (by omega) (by omega) (by decide) (by omega) sm7 (by decide)).mono ?_; rintro e w2 ⟨t, rfl, ht, cu2, hb2⟩
  have R2 := Lib.hid (row_chg HR.out (Chg.of_grown hb2) (.inl hBw))
  have b2 := bel_chg (Chg.of_grown hb2) (Nat.le_of_lt hBw) b1
  obtain ⟨ht0, ht1⟩ := sm7_of ht
  clear hb2 cu1 HR b1 HW HZ HB ht
  go_wp2_with fail
  refine (C_look B _ t w2 cu2 (by omega) ht0 ht1).mono ?_; rintro e w3 ⟨x, rfl, hx, cu3, hb3⟩
  have h0 := row_chg R2.out (Chg.of_grown hb3) (.inl hBw)
  have b4 := bel_chg (Chg.of_grown hb3) (Nat.le_of_lt hBw) b2
  have hlt2 := h0.lt
  have HX := Lib.hid hx
  have y0 := h0.cell (i := 0) (by omega)
  have y1 := h0.cell (i := 1) (by omega)
  have y2 := h0.cell (i := 2) (by omega)
  have y3 := h0.cell (i := 3) (by omega)
  have y4 := h0.cell (i := 4) (by omega)
  have v0 := h0.frozen 0
  have v1 := h0.frozen 1
  have v2 := h0.frozen 2
  have v3 := h0.frozen 3
  have v4 := h0.frozen 4
  clear R2 cu2 cu3 hb3 h0 hx b2
  go_wp2_with fail
  go_light; refine bodyPost_ret (by simp (maxDischargeDepth := 3) [results, Tryz.results55, go_sem, *]; try rfl) rfl ?_
  refine ⟨x, rfl, HX.out, ?_⟩
  (repeat (first | with_reducible assumption | with_reducible refine Below.setCell ?_ (by first | omega | (simp; done) | (simp; omega)) _))
set_option maxHeartbeats 2000000 in
theorem C_DrawLookText (v : Value) (n : Nat) (w : World) (h : SU w v n) :
    Calls Tryz.prog 18 #[v] w fun e w' => ∃ x : Lk, e = .returned (.agg #[.int .i64 (x).tick, .int .i64 (x).who, .int .i64 (x).rid, .int .i64 (x).kind, .string (x).why]) ∧ smK x = true ∧ Below w.heap.size w w' := by
  obtain ⟨w0, hw0⟩ : ∃ w0, w0 = w.alloc (.cells #[.int .i64 0, .int .i64 0, .int .i64 0, .int .i64 0, .string (⟨#[]⟩ : ByteArray)] 37) := ⟨_, rfl⟩
  have b0 : Below w.heap.size w w0 := by rw [hw0]; (repeat (first | with_reducible exact Below.refl _ _ | with_reducible exact below_regrown _ _ _ | with_reducible refine bel_step0 (by assumption) ?_ | with_reducible refine bel_alloc0 ?_ _ | with_reducible refine bel_regrown0 ?_ _ _ | with_reducible refine bel_regrown ?_ (by first | omega | (simp; done) | (simp; omega)) _ _ | with_reducible refine below_drewN ?_ _ | with_reducible refine Below.drew ?_ | with_reducible refine Below.alloc ?_ (by first | omega | (simp; done) | (simp; omega)) _ | with_reducible refine Below.setCell ?_ (by first | omega | (simp; done) | (simp; omega)) _ | with_reducible refine bel_step (by assumption) (by first | omega | (simp; done) | (simp; omega)) ?_ | with_reducible refine bel_grown (by assumption) (by first | omega | (simp; done) | (simp; omega)) (by first | omega | (simp; done) | (simp; omega)) ?_))
  have r1 : w0.rowIs w.heap.size 37 5 (cK (⟨0, 0, 0, 0, (⟨#[]⟩ : ByteArray)⟩ : Lk)) := by rw [hw0]; exact row5_alloc w _ (⟨0, 0, 0, 0, (⟨#[]⟩ : ByteArray)⟩ : Lk)
  have HW := Lib.hid hw0.symm
  have HR := Lib.hid r1
  have h1 := h.below b0
  clear hw0 h r1
  go_enter Tryz.func18, Tryz.ntmps18
  go_wp2_with fail
  rw [HW.out]
  refine (C_DrawIsLook _ n w0 h1).mono ?_; rintro e w3 ⟨x, rfl, hx, hb3⟩
  have h0 := HR.out.of_block (hb3.block _ HR.out.lt)
  have b4 := bel_step0 hb3 b0
  have hlt2 := h0.lt
  have HX := Lib.hid hx
  have y0 := h0.cell (i := 0) (by omega)
  have y1 := h0.cell (i := 1) (by omega)
  have y2 := h0.cell (i := 2) (by omega)
  have y3 := h0.cell (i := 3) (by omega)
  have y4 := h0.cell (i := 4) (by omega)
  have v0 := h0.frozen 0
  have v1 := h0.frozen 1
  have v2 := h0.frozen 2
  have v3 := h0.frozen 3
  have v4 := h0.frozen 4
  clear HR hb3 h0 hx b0 HW
  go_wp2_with fail
  go_light; refine bodyPost_ret (by simp (maxDischargeDepth := 3) [results, Tryz.results18, go_sem, *]; try rfl) rfl ?_
  refine ⟨x, rfl, HX.out, ?_⟩
  (repeat (first | with_reducible assumption | with_reducible refine Below.setCell ?_ (by first | omega | (simp; done) | (simp; omega)) _))
end Go.Proofs.YtmhelhjjadoiaaaGreatDoor
