/- IndexClue: the program and the reference. No condition but those stated. -/
import Derived.Test.YtnhkejbgcjebmaaDoorClueC
namespace Go.Proofs.YtnhkejbgcjebmaaDoor
set_option linter.unusedVariables false
set_option linter.unusedSimpArgs false
open Go.RowKit Go.Sort
def aftM (f : Nat → ByteArray) (x : ByteArray) : Nat → ByteArray
  | 0 => (⟨#[]⟩ : ByteArray)
  | k + 1 => if Op.bytesLess (f k).toList x.toList then f k else aftM f x k
def befM (f : Nat → ByteArray) (x : ByteArray) : Nat → ByteArray
  | 0 => (⟨#[]⟩ : ByteArray)
  | k + 1 => if gtB (f k) x && (befM f x k).toList.isEmpty then f k else befM f x k
def c4 (a b : Int) (s t : ByteArray) (m : Nat) : Value := if m = 0 then .int .i64 a else if m = 1 then .int .i64 b else if m = 2 then .string s else .string t
theorem row4_alloc (w : World) (ty : TypeId) (a b : Int) (s t : ByteArray) : (w.alloc (.cells #[.int .i64 a, .int .i64 b, .string s, .string t] ty)).rowIs w.heap.size ty 4 (c4 a b s t) :=
  World.rowIs_alloc w #[.int .i64 a, .int .i64 b, .string s, .string t] ty (c4 a b s t) (fun i hi => by
    match i, hi with
    | 0, _ => rfl
    | 1, _ => rfl
    | 2, _ => rfl
    | 3, _ => rfl
    | n + 4, h => exact absurd h (by simp))
theorem row4_set2 {w : World} {g : Nat} {ty : TypeId} {a b : Int} {s t : ByteArray} (u : ByteArray) (h : w.rowIs g ty 4 (c4 a b s t)) : (w.setCell ⟨g, 2, none⟩ (.string u)).rowIs g ty 4 (c4 a b u t) :=
  (h.set 2 (.string u)).congr (fun i hi => by
    match i, hi with
    | 0, _ => rfl
    | 1, _ => rfl
    | 2, _ => rfl
    | 3, _ => rfl
    | n + 4, h => exact absurd h (by omega))
theorem row4_set3 {w : World} {g : Nat} {ty : TypeId} {a b : Int} {s t : ByteArray} (u : ByteArray) (h : w.rowIs g ty 4 (c4 a b s t)) : (w.setCell ⟨g, 3, none⟩ (.string u)).rowIs g ty 4 (c4 a b s u) :=
  (h.set 3 (.string u)).congr (fun i hi => by
    match i, hi with
    | 0, _ => rfl
    | 1, _ => rfl
    | 2, _ => rfl
    | 3, _ => rfl
    | n + 4, h => exact absurd h (by omega))
set_option maxHeartbeats 4000000 in
theorem C_IndexClueI (v : Value) (n : Nat) (f : Nat → ByteArray) (x : ByteArray) (w : World) (h : TI w v n f) (hs : ∀ j, j < n → (f j).size ≤ 9223372036854775807) (hx : x.size ≤ 9223372036854775807) :
    Calls Tryd.prog 30 #[v, .string x] w fun e w' => e = .returned (.tuple #[.agg #[.int .i64 0, .int .i64 0, .string (if dictB n f && wordB x then aftM f x n else (⟨#[]⟩ : ByteArray)), .string (if dictB n f && wordB x then befM f x n else (⟨#[]⟩ : ByteArray))], .bool (dictB n f && wordB x)]) ∧ Below w.heap.size w w' := by
  obtain ⟨w0, hw0⟩ : ∃ w0, w0 = w.alloc (.cells #[.int .i64 0, .int .i64 0, .string (⟨#[]⟩ : ByteArray), .string (⟨#[]⟩ : ByteArray)] 29) := ⟨_, rfl⟩
  have hb0 : Below w.heap.size w w0 := by rw [hw0]; (repeat (first | with_reducible exact Below.refl _ _ | with_reducible exact below_regrown _ _ _ | with_reducible refine bel_step0 (by assumption) ?_ | with_reducible refine bel_alloc0 ?_ _ | with_reducible refine bel_regrown0 ?_ _ _ | with_reducible refine bel_regrown ?_ (by first | omega | (simp; done) | (simp; omega)) _ _ | with_reducible refine below_drewN ?_ _ | with_reducible refine Below.drew ?_ | with_reducible refine Below.alloc ?_ (by first | omega | (simp; done) | (simp; omega)) _ | with_reducible refine Below.setCell ?_ (by first | omega | (simp; done) | (simp; omega)) _ | with_reducible refine bel_step (by assumption) (by first | omega | (simp; done) | (simp; omega)) ?_ | with_reducible refine bel_grown (by assumption) (by first | omega | (simp; done) | (simp; omega)) (by first | omega | (simp; done) | (simp; omega)) ?_))
  have r0 : w0.rowIs w.heap.size 29 4 (c4 0 0 (⟨#[]⟩ : ByteArray) (⟨#[]⟩ : ByteArray)) := by rw [hw0]; exact row4_alloc _ _ _ _ _ _
  have HW0 := Lib.hid hw0
  have HS := Lib.hid hs
  have HH := Lib.hid (h.below hb0)
  clear hw0 hs
  obtain ⟨A, cap, rfl, hr, hc, hm⟩ := h
  have HR := Lib.hid hr
  clear hr
  cases hd : dictB n f
  · go_enter Tryd.func30, Tryd.ntmps30
    go_wp2_with fail
    rw [← HW0.out]
    refine (C_IsDictionary _ _ _ _ HH.out HS.out).mono ?_; rintro e w1 ⟨rfl, hb1⟩; rw [hd]
    have r1 := r0.of_block (hb1.block _ r0.lt)
    have x0 := r1.cell (i := 0) (by omega); have x1 := r1.cell (i := 1) (by omega); have x2 := r1.cell (i := 2) (by omega); have x3 := r1.cell (i := 3) (by omega); simp only [c4, if_true, if_false, Nat.reduceEqDiff, reduceCtorEq] at x0 x1 x2 x3
    have f0 := r1.frozen 0
    have f1 := r1.frozen 1
    have f2 := r1.frozen 2
    have f3 := r1.frozen 3
    go_wp2_with fail
    all_goals (go_light; refine bodyPost_ret (by simp (maxDischargeDepth := 3) [results, Tryd.results30, go_sem, *]; try rfl) rfl ?_)
    refine ⟨rfl, ?_⟩
    have hb := bel_step0 hb1 hb0
    exact (((hb.setCell (p := ⟨w.heap.size, 0, none⟩) (Nat.le_refl _) _).setCell (p := ⟨w.heap.size, 1, none⟩) (Nat.le_refl _) _).setCell (p := ⟨w.heap.size, 2, none⟩) (Nat.le_refl _) _).setCell (p := ⟨w.heap.size, 3, none⟩) (Nat.le_refl _) _
  cases hw : wordB x
  · go_enter Tryd.func30, Tryd.ntmps30
    go_wp2_with fail
    rw [← HW0.out]
    refine (C_IsDictionary _ _ _ _ HH.out HS.out).mono ?_; rintro e w1 ⟨rfl, hb1⟩; rw [hd]
    go_wp2_with fail
    refine (C_isWord _ _ hx).mono ?_; rintro e w2 ⟨rfl, hb2⟩; rw [hw]
    have r1 := (r0.of_block (hb1.block _ r0.lt))
    have r2 := r1.of_block (hb2.block _ r1.lt)
    have x0 := r2.cell (i := 0) (by omega); have x1 := r2.cell (i := 1) (by omega); have x2 := r2.cell (i := 2) (by omega); have x3 := r2.cell (i := 3) (by omega); simp only [c4, if_true, if_false, Nat.reduceEqDiff, reduceCtorEq] at x0 x1 x2 x3
    have f0 := r2.frozen 0
    have f1 := r2.frozen 1
    have f2 := r2.frozen 2
    have f3 := r2.frozen 3
    go_wp2_with fail
    all_goals (go_light; refine bodyPost_ret (by simp (maxDischargeDepth := 3) [results, Tryd.results30, go_sem, *]; try rfl) rfl ?_)
    refine ⟨rfl, ?_⟩
    have hb := bel_step0 hb2 (bel_step0 hb1 hb0)
    exact (((hb.setCell (p := ⟨w.heap.size, 0, none⟩) (Nat.le_refl _) _).setCell (p := ⟨w.heap.size, 1, none⟩) (Nat.le_refl _) _).setCell (p := ⟨w.heap.size, 2, none⟩) (Nat.le_refl _) _).setCell (p := ⟨w.heap.size, 3, none⟩) (Nat.le_refl _) _
  · go_enter Tryd.func30, Tryd.ntmps30
    go_wp2_with fail
    rw [← HW0.out]
    refine (C_IsDictionary _ _ _ _ HH.out HS.out).mono ?_; rintro e w1 ⟨rfl, hb1⟩; rw [hd]
    go_wp2_with fail
    refine (C_isWord _ _ hx).mono ?_; rintro e w2 ⟨rfl, hb2⟩; rw [hw]
    have r1 := (r0.of_block (hb1.block _ r0.lt))
    have r2 := r1.of_block (hb2.block _ r1.lt)
    have hb := bel_step0 hb2 (bel_step0 hb1 hb0)
    have hlt0 := r2.lt
    have HR2 := Lib.hid r2
    have HB2 := Lib.hid hb
    clear r0 r1 r2 hb0 hb1 hb2 hb
    go_wp2_with fail
    go_loopw [20] (fun i wr => ∃ k : Nat, k ≤ n ∧ i = .int .i64 k ∧ Below w.heap.size w wr ∧ wr.rowIs w.heap.size 29 4 (c4 0 0 (⟨#[]⟩ : ByteArray) (⟨#[]⟩ : ByteArray)) ∧ wr.rowIs w2.heap.size 29 4 (c4 0 0 (aftM f x k) (befM f x k))) (fun i _ => n - (intOf i).toNat)
    case atStart => exact ⟨0, Nat.zero_le _, rfl, HB2.out.alloc HB2.out.size _, HR2.out.of_block (Below.heap_alloc _ _ _ HR2.out.lt), row4_alloc _ _ _ _ _ _⟩
    case round =>
      obtain ⟨k, hk, rfl, hB, hrR, hrB⟩ := hrel
      by_cases hlt : k < n
      · obtain ⟨bb, off, rfl, hb, hcell⟩ := (HR.out.below hB) (by omega)
        have hck := hcell k hlt
        obtain ⟨sa, hsa⟩ : ∃ sa, aftM f x k = sa := ⟨_, rfl⟩
        obtain ⟨sb, hsb⟩ : ∃ sb, befM f x k = sb := ⟨_, rfl⟩
        rw [hsa, hsb] at hrB
        have y0 := hrB.cell (i := 0) (by omega); have y1 := hrB.cell (i := 1) (by omega); have y2 := hrB.cell (i := 2) (by omega); have y3 := hrB.cell (i := 3) (by omega); simp only [c4, if_true, if_false, Nat.reduceEqDiff, reduceCtorEq] at y0 y1 y2 y3
        have g2 := hrB.frozen 2
        have g3 := hrB.frozen 3
        have hl2 := hrB.lt
        have HRB := Lib.hid hrB
        have HRR := Lib.hid hrR
        have HSA := Lib.hid hsa
        have HSB := Lib.hid hsb
        have hw2 : w.heap.size ≤ w2.heap.size := HB2.out.size
        have hneq : w.heap.size ≠ w2.heap.size := by omega
        clear hcell hrB hrR hsa hsb
        cases hl : Op.bytesLess (f k).toList x.toList
        · cases he : ((f k).toList == x.toList)
          · cases hbe : sb.toList.isEmpty
            · have e1 : aftM f x (k + 1) = sa := by simp only [aftM, hl, Bool.false_eq_true, if_false]; exact HSA.out
              have e2 : befM f x (k + 1) = sb := by simp only [befM]; rw [HSB.out, hbe, Bool.and_false]; rfl
              have HE := Lib.hid (And.intro e1 e2)
              clear e1 e2
              go_wp2
              go_roundw
              case rel => exact ⟨k + 1, by omega, by go_num, hB, HRR.out, by rw [HE.out.1, HE.out.2]; exact HRB.out⟩
              case measure => simp [intOf]; omega
            · have e1 : aftM f x (k + 1) = sa := by simp only [aftM, hl, Bool.false_eq_true, if_false]; exact HSA.out
              have e2 : befM f x (k + 1) = f k := by simp only [befM]; rw [HSB.out, hbe]; simp [gtB, hl, he]
              have HE := Lib.hid (And.intro e1 e2)
              clear e1 e2
              go_wp2
              go_roundw
              case rel => exact ⟨k + 1, by omega, by go_num, hB.setCell (p := ⟨w2.heap.size, 3, none⟩) hw2 _, HRR.out.setOther (a := ⟨w2.heap.size, 3, none⟩) hneq _, by rw [HE.out.1, HE.out.2]; exact row4_set3 _ HRB.out⟩
              case measure => simp [intOf]; omega
          · have e1 : aftM f x (k + 1) = sa := by simp only [aftM, hl, Bool.false_eq_true, if_false]; exact HSA.out
            have e2 : befM f x (k + 1) = sb := by simp only [befM]; rw [HSB.out]; simp [gtB, hl, he]
            have HE := Lib.hid (And.intro e1 e2)
            clear e1 e2
            go_wp2
            go_roundw
            case rel => exact ⟨k + 1, by omega, by go_num, hB, HRR.out, by rw [HE.out.1, HE.out.2]; exact HRB.out⟩
            case measure => simp [intOf]; omega
        · have e1 : aftM f x (k + 1) = f k := by simp only [aftM, hl, if_true]
          have e2 : befM f x (k + 1) = sb := by simp only [befM]; rw [HSB.out]; simp [gtB, hl]
          have HE := Lib.hid (And.intro e1 e2)
          clear e1 e2
          go_wp2
          go_roundw
          case rel => exact ⟨k + 1, by omega, by go_num, hB.setCell (p := ⟨w2.heap.size, 2, none⟩) hw2 _, HRR.out.setOther (a := ⟨w2.heap.size, 2, none⟩) hneq _, by rw [HE.out.1, HE.out.2]; exact row4_set2 _ HRB.out⟩
          case measure => simp [intOf]; omega
      · obtain rfl : k = n := by omega
        obtain ⟨sa, hsa⟩ : ∃ sa, aftM f x k = sa := ⟨_, rfl⟩
        obtain ⟨sb, hsb⟩ : ∃ sb, befM f x k = sb := ⟨_, rfl⟩
        rw [hsa, hsb] at hrB
        have HSA := Lib.hid hsa
        have HSB := Lib.hid hsb
        clear hsa hsb
        have y0 := hrB.cell (i := 0) (by omega); have y1 := hrB.cell (i := 1) (by omega); have y2 := hrB.cell (i := 2) (by omega); have y3 := hrB.cell (i := 3) (by omega); simp only [c4, if_true, if_false, Nat.reduceEqDiff, reduceCtorEq] at y0 y1 y2 y3
        have x0 := hrR.cell (i := 0) (by omega); have x1 := hrR.cell (i := 1) (by omega); have x2 := hrR.cell (i := 2) (by omega); have x3 := hrR.cell (i := 3) (by omega); simp only [c4, if_true, if_false, Nat.reduceEqDiff, reduceCtorEq] at x0 x1 x2 x3
        have f0 := hrR.frozen 0
        have f1 := hrR.frozen 1
        have f2 := hrR.frozen 2
        have f3 := hrR.frozen 3
        have hl2 := hrB.lt
        clear hrB hrR
        go_wp2
        all_goals (go_light; refine bodyPost_ret (by simp (maxDischargeDepth := 3) [results, Tryd.results30, go_sem, *]; try rfl) rfl ?_)
        refine ⟨by first | (rw [HSA.out, HSB.out]; done) | (simp [HSA.out, HSB.out]; done) | (show _ = Ending.returned (.tuple #[.agg #[.int .i64 0, .int .i64 0, .string (aftM f x k), .string (befM f x k)], .bool true]); rw [HSA.out, HSB.out]; rfl), ?_⟩
        have hb := hB
        exact (((hb.setCell (p := ⟨w.heap.size, 0, none⟩) (Nat.le_refl _) _).setCell (p := ⟨w.heap.size, 1, none⟩) (Nat.le_refl _) _).setCell (p := ⟨w.heap.size, 2, none⟩) (Nat.le_refl _) _).setCell (p := ⟨w.heap.size, 3, none⟩) (Nat.le_refl _) _
set_option maxHeartbeats 4000000 in
theorem C_IndexClueS (v : Value) (n : Nat) (f : Nat → ByteArray) (x : ByteArray) (w : World) (h : TI w v n f) (hs : ∀ j, j < n → (f j).size ≤ 9223372036854775807) (hx : x.size ≤ 9223372036854775807) :
    Calls Tryd.prog 29 #[v, .string x] w fun e w' => e = .returned (.tuple #[.agg #[.int .i64 0, .int .i64 0, .string (if dictB n f && wordB x then aftM f x n else (⟨#[]⟩ : ByteArray)), .string (if dictB n f && wordB x then befM f x n else (⟨#[]⟩ : ByteArray))], .bool (dictB n f && wordB x)]) ∧ Below w.heap.size w w' := by
  obtain ⟨w0, hw0⟩ : ∃ w0, w0 = (w.alloc (.cells #[.int .i64 0, .int .i64 0, .string (⟨#[]⟩ : ByteArray), .string (⟨#[]⟩ : ByteArray)] 29)).alloc (.cells #[.int .i64 0, .int .i64 0, .string (⟨#[]⟩ : ByteArray), .string (⟨#[]⟩ : ByteArray)] 29) := ⟨_, rfl⟩
  have hb0 : Below w.heap.size w w0 := by rw [hw0]; (repeat (first | with_reducible exact Below.refl _ _ | with_reducible exact below_regrown _ _ _ | with_reducible refine bel_step0 (by assumption) ?_ | with_reducible refine bel_alloc0 ?_ _ | with_reducible refine bel_regrown0 ?_ _ _ | with_reducible refine bel_regrown ?_ (by first | omega | (simp; done) | (simp; omega)) _ _ | with_reducible refine below_drewN ?_ _ | with_reducible refine Below.drew ?_ | with_reducible refine Below.alloc ?_ (by first | omega | (simp; done) | (simp; omega)) _ | with_reducible refine Below.setCell ?_ (by first | omega | (simp; done) | (simp; omega)) _ | with_reducible refine bel_step (by assumption) (by first | omega | (simp; done) | (simp; omega)) ?_ | with_reducible refine bel_grown (by assumption) (by first | omega | (simp; done) | (simp; omega)) (by first | omega | (simp; done) | (simp; omega)) ?_))
  have rr : (w.alloc (.cells #[.int .i64 0, .int .i64 0, .string (⟨#[]⟩ : ByteArray), .string (⟨#[]⟩ : ByteArray)] 29)).rowIs w.heap.size 29 4 (c4 0 0 (⟨#[]⟩ : ByteArray) (⟨#[]⟩ : ByteArray)) := row4_alloc _ _ _ _ _ _
  have r0 : w0.rowIs w.heap.size 29 4 (c4 0 0 (⟨#[]⟩ : ByteArray) (⟨#[]⟩ : ByteArray)) := by rw [hw0]; exact rr.of_block (Below.heap_alloc _ _ _ rr.lt)
  have o0 : w0.rowIs (w.heap.size + 1) 29 4 (c4 0 0 (⟨#[]⟩ : ByteArray) (⟨#[]⟩ : ByteArray)) := by
    rw [hw0]
    have := row4_alloc (w.alloc (.cells #[.int .i64 0, .int .i64 0, .string (⟨#[]⟩ : ByteArray), .string (⟨#[]⟩ : ByteArray)] 29)) 29 0 0 (⟨#[]⟩ : ByteArray) (⟨#[]⟩ : ByteArray)
    rwa [World.size_alloc] at this
  have HW0 := Lib.hid hw0
  have HS := Lib.hid hs
  have HH := Lib.hid (h.below hb0)
  clear hw0 hs rr
  obtain ⟨A, cap, rfl, hr, hc, hm⟩ := h
  have HR := Lib.hid hr
  clear hr
  cases hd : dictB n f
  · go_enter Tryd.func29, Tryd.ntmps29
    go_wp2_with fail
    rw [← HW0.out]
    refine (C_l20Good _ _ _ _ HH.out HS.out).mono ?_; rintro e w1 ⟨rfl, hb1⟩; rw [hd]
    have r1 := r0.of_block (hb1.block _ r0.lt)
    have o1 := o0.of_block (hb1.block _ o0.lt)
    have x0 := r1.cell (i := 0) (by omega); have x1 := r1.cell (i := 1) (by omega); have x2 := r1.cell (i := 2) (by omega); have x3 := r1.cell (i := 3) (by omega); simp only [c4, if_true, if_false, Nat.reduceEqDiff, reduceCtorEq] at x0 x1 x2 x3
    have y0 := o1.cell (i := 0) (by omega); have y1 := o1.cell (i := 1) (by omega); have y2 := o1.cell (i := 2) (by omega); have y3 := o1.cell (i := 3) (by omega); simp only [c4, if_true, if_false, Nat.reduceEqDiff, reduceCtorEq] at y0 y1 y2 y3
    have f0 := r1.frozen 0
    have f1 := r1.frozen 1
    have f2 := r1.frozen 2
    have f3 := r1.frozen 3
    go_wp2_with fail
    all_goals (go_light; refine bodyPost_ret (by simp (maxDischargeDepth := 3) [results, Tryd.results29, go_sem, *]; try rfl) rfl ?_)
    refine ⟨rfl, ?_⟩
    have hb := bel_step0 hb1 hb0
    exact (((hb.setCell (p := ⟨w.heap.size, 0, none⟩) (Nat.le_refl _) _).setCell (p := ⟨w.heap.size, 1, none⟩) (Nat.le_refl _) _).setCell (p := ⟨w.heap.size, 2, none⟩) (Nat.le_refl _) _).setCell (p := ⟨w.heap.size, 3, none⟩) (Nat.le_refl _) _
  cases hw : wordB x
  · go_enter Tryd.func29, Tryd.ntmps29
    go_wp2_with fail
    rw [← HW0.out]
    refine (C_l20Good _ _ _ _ HH.out HS.out).mono ?_; rintro e w1 ⟨rfl, hb1⟩; rw [hd]
    go_wp2_with fail
    refine (C_l2Word _ _ hx).mono ?_; rintro e w2 ⟨rfl, rfl⟩; rw [hw]
    have r2 := r0.of_block (hb1.block _ r0.lt)
    have o1 := o0.of_block (hb1.block _ o0.lt)
    have x0 := r2.cell (i := 0) (by omega); have x1 := r2.cell (i := 1) (by omega); have x2 := r2.cell (i := 2) (by omega); have x3 := r2.cell (i := 3) (by omega); simp only [c4, if_true, if_false, Nat.reduceEqDiff, reduceCtorEq] at x0 x1 x2 x3
    have y0 := o1.cell (i := 0) (by omega); have y1 := o1.cell (i := 1) (by omega); have y2 := o1.cell (i := 2) (by omega); have y3 := o1.cell (i := 3) (by omega); simp only [c4, if_true, if_false, Nat.reduceEqDiff, reduceCtorEq] at y0 y1 y2 y3
    have f0 := r2.frozen 0
    have f1 := r2.frozen 1
    have f2 := r2.frozen 2
    have f3 := r2.frozen 3
    go_wp2_with fail
    all_goals (go_light; refine bodyPost_ret (by simp (maxDischargeDepth := 3) [results, Tryd.results29, go_sem, *]; try rfl) rfl ?_)
    refine ⟨rfl, ?_⟩
    have hb := bel_step0 hb1 hb0
    exact (((hb.setCell (p := ⟨w.heap.size, 0, none⟩) (Nat.le_refl _) _).setCell (p := ⟨w.heap.size, 1, none⟩) (Nat.le_refl _) _).setCell (p := ⟨w.heap.size, 2, none⟩) (Nat.le_refl _) _).setCell (p := ⟨w.heap.size, 3, none⟩) (Nat.le_refl _) _
  · go_enter Tryd.func29, Tryd.ntmps29
    go_wp2_with fail
    rw [← HW0.out]
    refine (C_l20Good _ _ _ _ HH.out HS.out).mono ?_; rintro e w1 ⟨rfl, hb1⟩; rw [hd]
    go_wp2_with fail
    refine (C_l2Word _ _ hx).mono ?_; rintro e w2 ⟨rfl, rfl⟩; rw [hw]
    have r2 := r0.of_block (hb1.block _ r0.lt)
    have o1 := o0.of_block (hb1.block _ o0.lt)
    have hb := bel_step0 hb1 hb0
    have HR2 := Lib.hid r2
    have HO2 := Lib.hid o1
    have HB2 := Lib.hid hb
    clear r0 r2 o0 o1 hb0 hb1 hb
    go_wp2_with fail
    go_loopw [7] (fun i wr => ∃ k : Nat, k ≤ n ∧ i = .int .i64 k ∧ Below w.heap.size w wr ∧ wr.rowIs w.heap.size 29 4 (c4 0 0 (⟨#[]⟩ : ByteArray) (⟨#[]⟩ : ByteArray)) ∧ wr.rowIs (w.heap.size + 1) 29 4 (c4 0 0 (aftM f x k) (befM f x k))) (fun i _ => n - (intOf i).toNat)
    case atStart => exact ⟨0, Nat.zero_le _, rfl, HB2.out, HR2.out, HO2.out⟩
    case round =>
      obtain ⟨k, hk, rfl, hB, hrR, hrB⟩ := hrel
      by_cases hlt : k < n
      · obtain ⟨bb, off, rfl, hb, hcell⟩ := HR.out (by omega)
        have hck := (hB.cell (p := ⟨bb, off + k, none⟩) hb).trans (hcell k hlt)
        have hneb : bb ≠ w.heap.size + 1 := by omega
        obtain ⟨sa, hsa⟩ : ∃ sa, aftM f x k = sa := ⟨_, rfl⟩
        obtain ⟨sb, hsb⟩ : ∃ sb, befM f x k = sb := ⟨_, rfl⟩
        rw [hsa, hsb] at hrB
        have y0 := hrB.cell (i := 0) (by omega); have y1 := hrB.cell (i := 1) (by omega); have y2 := hrB.cell (i := 2) (by omega); have y3 := hrB.cell (i := 3) (by omega); simp only [c4, if_true, if_false, Nat.reduceEqDiff, reduceCtorEq] at y0 y1 y2 y3
        have g2 := hrB.frozen 2
        have g3 := hrB.frozen 3
        have hl2 := hrB.lt
        have hck2 : ∀ u, (wr.setCell ⟨w.heap.size + 1, 2, none⟩ u).cell? ⟨bb, off + k, none⟩ = some (.string (f k)) := fun u => by rw [World.cell?_setCell_other _ _ _ _ (by intro h; injection h with h _ _; omega)]; exact hck
        have HRB := Lib.hid hrB
        have HRR := Lib.hid hrR
        have HSA := Lib.hid hsa
        have HSB := Lib.hid hsb
        have hw2 : w.heap.size ≤ w.heap.size + 1 := by omega
        have hneq : w.heap.size ≠ w.heap.size + 1 := by omega
        clear hcell hrB hrR hsa hsb
        cases hl : Op.bytesLess (f k).toList x.toList
        · cases he : ((f k).toList == x.toList)
          · cases hbe : sb.toList.isEmpty
            · have e1 : aftM f x (k + 1) = sa := by simp only [aftM, hl, Bool.false_eq_true, if_false]; exact HSA.out
              have e2 : befM f x (k + 1) = sb := by simp only [befM]; rw [HSB.out, hbe, Bool.and_false]; rfl
              have HE := Lib.hid (And.intro e1 e2)
              clear e1 e2
              go_wp2
              go_roundw
              case rel => exact ⟨k + 1, by omega, by go_num, hB, HRR.out, by rw [HE.out.1, HE.out.2]; exact HRB.out⟩
              case measure => simp [intOf]; omega
            · have e1 : aftM f x (k + 1) = sa := by simp only [aftM, hl, Bool.false_eq_true, if_false]; exact HSA.out
              have e2 : befM f x (k + 1) = f k := by simp only [befM]; rw [HSB.out, hbe]; simp [gtB, hl, he]
              have HE := Lib.hid (And.intro e1 e2)
              clear e1 e2
              go_wp2
              go_roundw
              case rel => exact ⟨k + 1, by omega, by go_num, hB.setCell (p := ⟨w.heap.size + 1, 3, none⟩) hw2 _, HRR.out.setOther (a := ⟨w.heap.size + 1, 3, none⟩) hneq _, by rw [HE.out.1, HE.out.2]; exact row4_set3 _ HRB.out⟩
              case measure => simp [intOf]; omega
          · have e1 : aftM f x (k + 1) = sa := by simp only [aftM, hl, Bool.false_eq_true, if_false]; exact HSA.out
            have e2 : befM f x (k + 1) = sb := by simp only [befM]; rw [HSB.out]; simp [gtB, hl, he]
            have HE := Lib.hid (And.intro e1 e2)
            clear e1 e2
            go_wp2
            go_roundw
            case rel => exact ⟨k + 1, by omega, by go_num, hB, HRR.out, by rw [HE.out.1, HE.out.2]; exact HRB.out⟩
            case measure => simp [intOf]; omega
        · have e1 : aftM f x (k + 1) = f k := by simp only [aftM, hl, if_true]
          have e2 : befM f x (k + 1) = sb := by simp only [befM]; rw [HSB.out]; simp [gtB, hl]
          have HE := Lib.hid (And.intro e1 e2)
          clear e1 e2
          go_wp2
          go_roundw
          case rel => exact ⟨k + 1, by omega, by go_num, hB.setCell (p := ⟨w.heap.size + 1, 2, none⟩) hw2 _, HRR.out.setOther (a := ⟨w.heap.size + 1, 2, none⟩) hneq _, by rw [HE.out.1, HE.out.2]; exact row4_set2 _ HRB.out⟩
          case measure => simp [intOf]; omega
      · obtain rfl : k = n := by omega
        obtain ⟨sa, hsa⟩ : ∃ sa, aftM f x k = sa := ⟨_, rfl⟩
        obtain ⟨sb, hsb⟩ : ∃ sb, befM f x k = sb := ⟨_, rfl⟩
        rw [hsa, hsb] at hrB
        have HSA := Lib.hid hsa
        have HSB := Lib.hid hsb
        clear hsa hsb
        have y0 := hrB.cell (i := 0) (by omega); have y1 := hrB.cell (i := 1) (by omega); have y2 := hrB.cell (i := 2) (by omega); have y3 := hrB.cell (i := 3) (by omega); simp only [c4, if_true, if_false, Nat.reduceEqDiff, reduceCtorEq] at y0 y1 y2 y3
        have x0 := hrR.cell (i := 0) (by omega); have x1 := hrR.cell (i := 1) (by omega); have x2 := hrR.cell (i := 2) (by omega); have x3 := hrR.cell (i := 3) (by omega); simp only [c4, if_true, if_false, Nat.reduceEqDiff, reduceCtorEq] at x0 x1 x2 x3
        have f0 := hrR.frozen 0
        have f1 := hrR.frozen 1
        have f2 := hrR.frozen 2
        have f3 := hrR.frozen 3
        have hl2 := hrB.lt
        clear hrB hrR
        go_wp2
        all_goals (go_light; refine bodyPost_ret (by simp (maxDischargeDepth := 3) [results, Tryd.results29, go_sem, *]; try rfl) rfl ?_)
        refine ⟨by first | (rw [HSA.out, HSB.out]; done) | (simp [HSA.out, HSB.out]; done) | (show _ = Ending.returned (.tuple #[.agg #[.int .i64 0, .int .i64 0, .string (aftM f x k), .string (befM f x k)], .bool true]); rw [HSA.out, HSB.out]; rfl), ?_⟩
        have hb := hB
        exact (((hb.setCell (p := ⟨w.heap.size, 0, none⟩) (Nat.le_refl _) _).setCell (p := ⟨w.heap.size, 1, none⟩) (Nat.le_refl _) _).setCell (p := ⟨w.heap.size, 2, none⟩) (Nat.le_refl _) _).setCell (p := ⟨w.heap.size, 3, none⟩) (Nat.le_refl _) _
end Go.Proofs.YtnhkejbgcjebmaaDoor
