/- Whether a record matches a query: both sides. No condition but those stated. -/
import Derived.Test.YtjmfkenhnfdbjaaGreatDoorQyW
import Derived.Test.YtjmfkenhnfdbjaaGreatDoorQyQ
namespace Go.Proofs.YtjmfkenhnfdbjaaGreatDoor
set_option linter.unusedVariables false
set_option linter.unusedSimpArgs false
open Go.RowKit Go.Sort
theorem dayR_ge {R : Rc} (h : ∀ j, j < R.n → 0 ≤ R.d j) (kind : Int) : decide (0 ≤ dayR R kind) = anyB R.n (fun j => R.k j == kind) := by
  cases e : anyB R.n (fun j => R.k j == kind)
  · rw [dayR_none e]; rfl
  · unfold dayR
    cases hf : (List.range R.n).find? (fun j => R.k j == kind) with
    | none =>
      rw [List.find?_eq_none] at hf
      obtain ⟨j, hj, hk⟩ := anyB_iff.1 e
      exact absurd hk (hf j (List.mem_range.2 hj))
    | some j => exact decide_eq_true (h j (List.mem_range.1 (List.mem_of_find?_eq_some hf)))
theorem rec_days {R : Rc} (h : recOk R = true) : ∀ j, j < R.n → 0 ≤ R.d j := by
  intro j hj
  unfold recOk at h
  rw [Bool.and_eq_true] at h
  have := allB_iff.1 h.2 j hj
  unfold goodE evOk within at this
  simp only [Bool.and_eq_true, decide_eq_true_eq] at this
  omega
theorem rq_eq {R : Rc} (h : recOk R = true) : rqS R = rqI R := by
  unfold rqS rqI
  congr 1
  funext n
  exact dayR_ge (rec_days h) n
theorem read_que {s : ByteArray} {o : Out} (h : readQ s = some o) : pQue s.size (bN s) (numA s) (s.size + 1) 0 = some o := by
  unfold readQ parseQ at h
  split at h
  · cases hp : pQue s.size (bN s) (numA s) (s.size + 1) 0 with
    | none => rw [hp] at h; cases h
    | some o1 =>
      rw [hp] at h
      simp only at h
      split at h
      · injection h with h; subst h; rfl
      · cases h
  · cases h
theorem C_l19Match (R : Rc) (sv : Value) (s : ByteArray) (o : Out) (hs : s.size ≤ 1048576) (hq : readQ s = some o) (w : World) (h : EvS w sv R) :
    Calls Tryz.prog 40 #[.string s, .agg #[.int .i64 (R).id, .int .i64 (R).ser, .int .i64 (R).made, sv]] w fun e w' => e = .returned (.bool (o.q.eval (rqS R))) ∧ Below w.heap.size w w' := by
  have HP := Lib.hid (read_que hq)
  obtain ⟨V, hV⟩ : ∃ V, o.q.eval (rqS R) = V := ⟨_, rfl⟩
  have HV := Lib.hid hV
  rw [hV]
  have HC := Lib.hid (fun w' (hb : Below w.heap.size w w') => C_l19Query R sv s hs w' (h.below hb))
  clear hq hV h
  go_enter Tryz.func40, Tryz.ntmps40
  go_wp2_with fail
  refine (HC.out _ (by (repeat (first | with_reducible exact Below.refl _ _ | with_reducible exact below_regrown _ _ _ | with_reducible refine bel_step0 (by assumption) ?_ | with_reducible refine bel_alloc0 ?_ _ | with_reducible refine bel_regrown0 ?_ _ _ | with_reducible refine bel_regrown ?_ (by first | omega | (simp; done) | (simp; omega)) _ _ | with_reducible refine below_drewN ?_ _ | with_reducible refine Below.drew ?_ | with_reducible refine Below.alloc ?_ (by first | omega | (simp; done) | (simp; omega)) _ | with_reducible refine Below.setCell ?_ (by first | omega | (simp; done) | (simp; omega)) _ | with_reducible refine bel_step (by assumption) (by first | omega | (simp; done) | (simp; omega)) ?_ | with_reducible refine bel_grown (by assumption) (by first | omega | (simp; done) | (simp; omega)) (by first | omega | (simp; done) | (simp; omega)) ?_)))).mono ?_; rintro e w1 ⟨x, rfl, ho, hb1⟩
  rw [HP.out] at ho
  have HY := Lib.hid (ho.1.trans HV.out)
  clear ho
  go_wp2
  go_ret
  rw [HY.out]
  exact ⟨rfl, by (repeat (first | with_reducible exact Below.refl _ _ | with_reducible exact below_regrown _ _ _ | with_reducible refine bel_step0 (by assumption) ?_ | with_reducible refine bel_alloc0 ?_ _ | with_reducible refine bel_regrown0 ?_ _ _ | with_reducible refine bel_regrown ?_ (by first | omega | (simp; done) | (simp; omega)) _ _ | with_reducible refine below_drewN ?_ _ | with_reducible refine Below.drew ?_ | with_reducible refine Below.alloc ?_ (by first | omega | (simp; done) | (simp; omega)) _ | with_reducible refine Below.setCell ?_ (by first | omega | (simp; done) | (simp; omega)) _ | with_reducible refine bel_step (by assumption) (by first | omega | (simp; done) | (simp; omega)) ?_ | with_reducible refine bel_grown (by assumption) (by first | omega | (simp; done) | (simp; omega)) (by first | omega | (simp; done) | (simp; omega)) ?_))⟩
/-- Whether a record matches the query that a text is. -/
def mtch (s : ByteArray) (R : Rc) : Bool := match readQ s with
  | none => false
  | some o => o.q.eval (rqI R)
theorem mtch_of {s : ByteArray} {o : Out} {R : Rc} (h : readQ s = some o) : mtch s R = o.q.eval (rqI R) := by unfold mtch; rw [h]
theorem good_some {s : ByteArray} (h : goodQ s = true) : ∃ o, readQ s = some o := by
  unfold goodQ at h
  exact Option.isSome_iff_exists.1 h
def dmOk (s : ByteArray) (R : Rc) : Bool := goodQ s && recOk R
def dmV (s : ByteArray) (R : Rc) : Bool := dmOk s R && mtch s R
/-- The query stands in three cells. -/
def QBox (w : World) (B : Nat) (x : Tq) : Prop := w.cell? ⟨B, 0, none⟩ = some (.int .u8 x.c) ∧ w.cell? ⟨B, 1, none⟩ = some (.int .i64 x.n) ∧ w.cell? ⟨B, 2, none⟩ = some (.slice x.A x.m x.k)
theorem QBox.new (w : World) (x : Tq) : QBox (w.alloc (.cells #[.int .u8 (x).c, .int .i64 (x).n, .slice (x).A (x).m (x).k] 61)) w.heap.size x := ⟨cell_new _ _ _ _ _ rfl, cell_new _ _ _ _ _ rfl, cell_new _ _ _ _ _ rfl⟩
theorem QBox.below {w w' : World} {B : Nat} {x : Tq} (h : QBox w B x) (hl : B < w.heap.size) (hb : Below w.heap.size w w') : QBox w' B x :=
  ⟨(hb.cell (p := ⟨B, 0, none⟩) hl).trans h.1, (hb.cell (p := ⟨B, 1, none⟩) hl).trans h.2.1, (hb.cell (p := ⟨B, 2, none⟩) hl).trans h.2.2⟩
set_option maxHeartbeats 4000000 in
theorem C_DoesMatchI (R : Rc) (sv : Value) (s : ByteArray) (hs : s.size ≤ 1048576) (w : World) (hk : Pk w) (h : EvS w sv R) :
    Calls Tryz.prog 7 #[.string s, .agg #[.int .i64 (R).id, .int .i64 (R).ser, .int .i64 (R).made, sv]] w fun e w' => e = .returned (.tuple #[.bool (dmV s R), .bool (dmOk s R)]) ∧ Below w.heap.size w w' := by
  obtain ⟨w0, hw0⟩ : ∃ w0, w0 = w.alloc (.cells #[.int .i64 R.id, .int .i64 R.ser, .int .i64 R.made, sv] 26) := ⟨_, rfl⟩
  have HW0 := Lib.hid hw0.symm
  have bx : Box w0 w.heap.size R sv := by rw [hw0]; exact ⟨by simp, by simp, by simp, by simp⟩
  have B0 : Below w.heap.size w w0 := by rw [hw0]; exact (Below.refl _ _).alloc (Nat.le_refl _) _
  have hz0 : w.heap.size < w0.heap.size := by rw [hw0]; simp
  have HBX := Lib.hid bx
  have HB0 := Lib.hid B0
  have HC := Lib.hid (C_readQuery s hs w0 (hk.below B0))
  have HH := Lib.hid (h.below B0)
  clear hk h hw0 bx B0
  cases hg : goodQ s
  · have HV := Lib.hid (show dmV s R = false ∧ dmOk s R = false by unfold dmV dmOk; rw [hg]; exact ⟨rfl, rfl⟩)
    rw [hg] at HC
    clear hg
    go_enter Tryz.func7, Tryz.ntmps7
    go_upto_region 1 with fail
    rw [HW0.out]
    go_wp2_with fail
    refine HC.out.mono ?_; rintro e w1 ⟨x, mo, rfl, hr⟩
    have HB := Lib.hid (bel_step0 hr.1 HB0.out)
    clear hr HC
    go_wp2
    go_ret2
    rw [HV.out.1, HV.out.2]
    exact ⟨rfl, HB.out.alloc HB.out.size _⟩
  · obtain ⟨o, ho⟩ := good_some hg
    obtain ⟨k, hk⟩ : ∃ k, recOk R = k := ⟨_, rfl⟩
    obtain ⟨v, hv⟩ : ∃ v, o.q.eval (rqI R) = v := ⟨_, rfl⟩
    have HV := Lib.hid (show dmV s R = (k && v) ∧ dmOk s R = k by unfold dmV dmOk; rw [hg, hk, mtch_of ho, hv]; exact ⟨rfl, rfl⟩)
    have HK := Lib.hid hk
    have HVV := Lib.hid hv
    have HO := Lib.hid ho
    rw [hg] at HC
    clear hg ho hk hv
    go_enter Tryz.func7, Tryz.ntmps7
    go_upto_region 1 with fail
    rw [HW0.out]
    go_wp2_with fail
    refine HC.out.mono ?_; rintro e w1 ⟨x, mo, rfl, hr⟩
    have hb1 := hr.1
    have HT := Lib.hid (hr.2 o HO.out).2
    obtain ⟨W1, hW1⟩ : ∃ W, W = w1.alloc (.cells #[.int .u8 (x).c, .int .i64 (x).n, .slice (x).A (x).m (x).k] 61) := ⟨_, rfl⟩
    have bW : Below w1.heap.size w1 W1 := by rw [hW1]; exact (Below.refl _ _).alloc (Nat.le_refl _) _
    have QX : QBox W1 w1.heap.size x := by rw [hW1]; exact QBox.new w1 x
    have hzW : w1.heap.size < W1.heap.size := by rw [hW1]; simp
    have HW1 := Lib.hid hW1.symm
    have HQX := Lib.hid QX
    have HBW := Lib.hid bW
    have HB1 := Lib.hid hb1
    have hz1 : w.heap.size < w1.heap.size := Nat.lt_of_lt_of_le hz0 hb1.size
    obtain ⟨r0, r1, r2, r3⟩ := (HBX.out.below hz0 hb1).below hz1 bW
    have HBX2 := Lib.hid (show Box W1 w.heap.size R sv from ⟨r0, r1, r2, r3⟩)
    have hz2 : w.heap.size < W1.heap.size := by omega
    clear hr HC hb1 bW hW1 QX
    go_upto_region 2 with fail
    rw [HW1.out]
    go_wp2_with fail
    refine (C_IsRecord R sv _ (HH.out.below (bel_step0 HBW.out HB1.out))).mono ?_; rintro e w2 ⟨rfl, hb2⟩
    have HB2 := Lib.hid hb2
    rw [HK.out]
    clear r0 r1 r2 r3
    obtain ⟨r0, r1, r2, r3⟩ := HBX2.out.below hz2 hb2
    obtain ⟨q0, q1, q2⟩ := HQX.out.below hzW hb2
    clear hb2
    cases k
    · go_wp2
      go_ret2
      rw [HV.out.1, HV.out.2]
      exact ⟨rfl, bel_step0 HB2.out (bel_step0 HBW.out (bel_step0 HB1.out HB0.out))⟩
    · go_wp2_with fail
      refine (C_matches R sv o.q x _ w2 ((HT.out.below HBW.out).below HB2.out) (readQ_wf HO.out) ((HH.out.below (bel_step0 HBW.out HB1.out)).below HB2.out)).mono ?_; rintro e w3 ⟨rfl, hb3⟩
      rw [HVV.out]
      clear r0 r1 r2 r3 q0 q1 q2
      go_wp2
      go_ret2
      rw [HV.out.1, HV.out.2]
      exact ⟨rfl, bel_step0 hb3 (bel_step0 HB2.out (bel_step0 HBW.out (bel_step0 HB1.out HB0.out)))⟩
set_option maxHeartbeats 4000000 in
theorem C_DoesMatchS (R : Rc) (sv : Value) (s : ByteArray) (hs : s.size ≤ 1048576) (w : World) (h : EvS w sv R) :
    Calls Tryz.prog 8 #[.string s, .agg #[.int .i64 (R).id, .int .i64 (R).ser, .int .i64 (R).made, sv]] w fun e w' => e = .returned (.tuple #[.bool (dmV s R), .bool (dmOk s R)]) ∧ Below w.heap.size w w' := by
  obtain ⟨w0, hw0⟩ : ∃ w0, w0 = w.alloc (.cells #[.int .i64 R.id, .int .i64 R.ser, .int .i64 R.made, sv] 26) := ⟨_, rfl⟩
  have HW0 := Lib.hid hw0.symm
  have bx : Box w0 w.heap.size R sv := by rw [hw0]; exact ⟨by simp, by simp, by simp, by simp⟩
  have B0 : Below w.heap.size w w0 := by rw [hw0]; exact (Below.refl _ _).alloc (Nat.le_refl _) _
  have hz0 : w.heap.size < w0.heap.size := by rw [hw0]; simp
  have HBX := Lib.hid bx
  have HB0 := Lib.hid B0
  have HC := Lib.hid (C_l19Good s hs w0)
  have HH := Lib.hid (h.below B0)
  clear h hw0 bx B0
  cases hg : goodQ s
  · have HV := Lib.hid (show dmV s R = false ∧ dmOk s R = false by unfold dmV dmOk; rw [hg]; exact ⟨rfl, rfl⟩)
    rw [hg] at HC
    clear hg
    go_enter Tryz.func8, Tryz.ntmps8
    go_upto_region 1 with fail
    rw [HW0.out]
    go_wp2_with fail
    refine HC.out.mono ?_; rintro e w1 ⟨rfl, hb1⟩
    go_wp2
    go_ret2
    rw [HV.out.1, HV.out.2]
    exact ⟨rfl, bel_step0 hb1 HB0.out⟩
  · obtain ⟨o, ho⟩ := good_some hg
    obtain ⟨k, hk⟩ : ∃ k, recOk R = k := ⟨_, rfl⟩
    obtain ⟨v, hv⟩ : ∃ v, o.q.eval (rqI R) = v := ⟨_, rfl⟩
    have HV := Lib.hid (show dmV s R = (k && v) ∧ dmOk s R = k by unfold dmV dmOk; rw [hg, hk, mtch_of ho, hv]; exact ⟨rfl, rfl⟩)
    have HM := Lib.hid (show k = true → ∀ w' (h : EvS w' sv R), Calls Tryz.prog 40 #[.string s, .agg #[.int .i64 (R).id, .int .i64 (R).ser, .int .i64 (R).made, sv]] w' fun e w'' => e = .returned (.bool v) ∧ Below w'.heap.size w' w'' from fun hkt w' h' => by
      have := C_l19Match R sv s o hs ho w' h'
      rwa [rq_eq (hk.trans hkt), hv] at this)
    have HK := Lib.hid hk
    rw [hg] at HC
    clear hg ho hk hv
    go_enter Tryz.func8, Tryz.ntmps8
    go_upto_region 1 with fail
    rw [HW0.out]
    go_wp2_with fail
    refine HC.out.mono ?_; rintro e w1 ⟨rfl, hb1⟩
    have HB1 := Lib.hid hb1
    have hz1 : w.heap.size < w1.heap.size := Nat.lt_of_lt_of_le hz0 hb1.size
    have hbx1 := HBX.out.below hz0 hb1
    have HBX1 := Lib.hid hbx1
    obtain ⟨r0, r1, r2, r3⟩ := hbx1
    clear HC hb1
    go_wp2_with fail
    refine (C_l2Record R sv _ (HH.out.below HB1.out)).mono ?_; rintro e w2 ⟨rfl, hb2⟩
    have HB2 := Lib.hid hb2
    rw [HK.out]
    clear r0 r1 r2 r3
    obtain ⟨r0, r1, r2, r3⟩ := HBX1.out.below hz1 hb2
    clear hb2
    cases k
    · go_wp2
      go_ret2
      rw [HV.out.1, HV.out.2]
      exact ⟨rfl, bel_step0 HB2.out (bel_step0 HB1.out HB0.out)⟩
    · go_wp2_with fail
      refine (HM.out (by trivial) _ ((HH.out.below HB1.out).below HB2.out)).mono ?_; rintro e w3 ⟨rfl, hb3⟩
      clear r0 r1 r2 r3
      go_wp2
      go_ret2
      rw [HV.out.1, HV.out.2]
      exact ⟨rfl, bel_step0 hb3 (bel_step0 HB2.out (bel_step0 HB1.out HB0.out))⟩
end Go.Proofs.YtjmfkenhnfdbjaaGreatDoor
