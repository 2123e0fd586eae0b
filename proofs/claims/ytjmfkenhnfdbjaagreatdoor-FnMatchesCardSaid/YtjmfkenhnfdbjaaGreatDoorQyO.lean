/- The reference's tests. No condition but those stated. -/
import Derived.Test.YtjmfkenhnfdbjaaGreatDoorQyN
namespace Go.Proofs.YtjmfkenhnfdbjaaGreatDoor
set_option linter.unusedVariables false
set_option linter.unusedSimpArgs false
open Go.RowKit Go.Sort
/-- Whether a record matches, and where the text goes on. -/
structure YE where
  y : Bool
  e : Int
def OutR (r : Rq) (p : Option Out) (x : YE) : Prop := match p with
  | none => x.e = -1
  | some o => x.y = o.q.eval r ∧ x.e = o.e
theorem outR_none {r : Rq} {p : Option Out} {x : YE} (h : p = none) (he : x.e = -1) : OutR r p x := by subst h; exact he
theorem outR_some {r : Rq} {p : Option Out} {x : YE} {o : Out} (h : p = some o) (h1 : x.y = o.q.eval r) (h2 : x.e = o.e) : OutR r p x := by subst h; exact ⟨h1, h2⟩
def rqS (R : Rc) : Rq := ⟨R.ser, R.id, R.made, fun n => decide (0 ≤ dayR R n)⟩
/-- The record's box. -/
def Box (w : World) (B : Nat) (R : Rc) (sv : Value) : Prop := w.cell? ⟨B, 0, none⟩ = some (.int .i64 R.id) ∧ w.cell? ⟨B, 1, none⟩ = some (.int .i64 R.ser) ∧ w.cell? ⟨B, 2, none⟩ = some (.int .i64 R.made) ∧ w.cell? ⟨B, 3, none⟩ = some sv
theorem box_new {w w' : World} {R : Rc} {sv : Value} {B : Nat} (hB : B = w.heap.size) (hb : Below (B + 1) (w.alloc (.cells #[.int .i64 R.id, .int .i64 R.ser, .int .i64 R.made, sv] 26)) w') : Box w' B R sv := by
  subst hB
  have hblk := hb.block w.heap.size (Nat.lt_succ_self _)
  exact ⟨(World.cell?_of_block (w := w.alloc (.cells #[.int .i64 R.id, .int .i64 R.ser, .int .i64 R.made, sv] 26)) (a := ⟨w.heap.size, 0, none⟩) hblk).trans (cell_new _ _ _ _ _ rfl),
    (World.cell?_of_block (w := w.alloc (.cells #[.int .i64 R.id, .int .i64 R.ser, .int .i64 R.made, sv] 26)) (a := ⟨w.heap.size, 1, none⟩) hblk).trans (cell_new _ _ _ _ _ rfl),
    (World.cell?_of_block (w := w.alloc (.cells #[.int .i64 R.id, .int .i64 R.ser, .int .i64 R.made, sv] 26)) (a := ⟨w.heap.size, 2, none⟩) hblk).trans (cell_new _ _ _ _ _ rfl),
    (World.cell?_of_block (w := w.alloc (.cells #[.int .i64 R.id, .int .i64 R.ser, .int .i64 R.made, sv] 26)) (a := ⟨w.heap.size, 3, none⟩) hblk).trans (cell_new _ _ _ _ _ rfl)⟩
theorem tst_num {s : ByteArray} {a : Nat} (ha : a < s.size) {n : Int} {e : Nat} (h : numA s (a + 1) = some (n, e)) {c : Nat} (hc : s[a].toNat = c) :
    tstQ s.size (bN s) (numA s) a = if okT c n then some ⟨.test c n, 0, e⟩ else none := by
  unfold tstQ
  rw [if_pos ha, h]
  simp only
  rw [bN_at ha, hc]
set_option maxHeartbeats 8000000 in
theorem C_l19Test (R : Rc) (sv : Value) (s : ByteArray) (hs : s.size ≤ 1048576) (a : Nat) (w : World) (ha : a ≤ s.size) (h : EvS w sv R) :
    Calls Tryz.prog 111 #[.string s, .int .i64 a, .agg #[.int .i64 (R).id, .int .i64 (R).ser, .int .i64 (R).made, sv]] w fun e w' => ∃ x : YE, e = .returned (.tuple #[.bool x.y, .int .i64 x.e]) ∧ OutR (rqS R) (tstQ s.size (bN s) (numA s) a) x ∧ Below w.heap.size w w' := by
  have HH := Lib.hid h
  clear h
  by_cases hlt : a < s.size
  · have hlt2 : (a : Int) < (s.size : Int) := by omega
    have b0 : (0 : Int) ≤ (a : Int) := by omega
    have HN := Lib.hid (fun w => C_l19Number s hs (a + 1) hlt w)
    have h1 : ((a + 1 : Nat) : Int) = (a : Int) + 1 := by omega
    rw [h1] at HN
    obtain ⟨c, hc⟩ : ∃ c, s[a].toNat = c := ⟨_, rfl⟩
    cases hn : numA s (a + 1) with
    | none =>
      have hF : numF s (a + 1) = 0 := by unfold numF; rw [hn]
      have hE : numE s (a + 1) = -1 := by unfold numE; rw [hn]
      rw [hF, hE] at HN
      have HO := Lib.hid (outR_none (r := rqS R) (x := ⟨false, -1⟩) (show tstQ s.size (bN s) (numA s) a = none by unfold tstQ; rw [if_pos hlt, hn]) rfl)
      clear hn hF hE h1 hc
      go_enter Tryz.func111, Tryz.ntmps111
      go_wp2_with fail
      refine (HN.out _).mono ?_; rintro e w1 ⟨rfl, hb1⟩
      go_wp2
      (go_ret2; exact ⟨⟨_, _⟩, rfl, HO.out, by (repeat (first | with_reducible exact Below.refl _ _ | with_reducible exact below_regrown _ _ _ | with_reducible refine bel_step0 (by assumption) ?_ | with_reducible refine bel_alloc0 ?_ _ | with_reducible refine bel_regrown0 ?_ _ _ | with_reducible refine bel_regrown ?_ (by first | omega | (simp; done) | (simp; omega)) _ _ | with_reducible refine below_drewN ?_ _ | with_reducible refine Below.drew ?_ | with_reducible refine Below.alloc ?_ (by first | omega | (simp; done) | (simp; omega)) _ | with_reducible refine Below.setCell ?_ (by first | omega | (simp; done) | (simp; omega)) _ | with_reducible refine bel_step (by assumption) (by first | omega | (simp; done) | (simp; omega)) ?_ | with_reducible refine bel_grown (by assumption) (by first | omega | (simp; done) | (simp; omega)) (by first | omega | (simp; done) | (simp; omega)) ?_))⟩)
    | some p =>
      obtain ⟨n, e⟩ := p
      have hF : numF s (a + 1) = n := by unfold numF; rw [hn]
      have hE : numE s (a + 1) = e := by unfold numE; rw [hn]
      rw [hF, hE] at HN
      have HT := Lib.hid (tst_num hlt hn hc)
      have be : ¬ ((e : Int) < 0) := by omega
      clear hn hF hE h1
      have B0 : Below w.heap.size w (w.alloc (.cells #[.int .i64 R.id, .int .i64 R.ser, .int .i64 R.made, sv] 26)) := (Below.refl _ _).alloc (Nat.le_refl _) _
      have HB0 := Lib.hid B0
      have HEV := Lib.hid (HH.out.below B0)
      clear B0
      have hcase : c = 115 ∨ c = 105 ∨ c = 101 ∨ c = 97 ∨ (c ≠ 115 ∧ c ≠ 105 ∧ c ≠ 101 ∧ c ≠ 97) := by omega
      rcases hcase with rfl | rfl | rfl | rfl | ⟨d1, d2, d3, d4⟩
      · cases hw : within n 1 99
        all_goals
          have HO := HT.out
          rw [show okT 115 n = within n 1 99 by unfold okT; simp, hw] at HO
          have HO := Lib.hid HO
          go_enter Tryz.func111, Tryz.ntmps111
          go_wp2_with fail
          refine (HN.out _).mono ?_; rintro e w1 ⟨rfl, hb1⟩
          obtain ⟨x0, x1, x2, x3⟩ := box_new rfl (by simpa using hb1)
          go_wp2_with fail
          refine (C_l1In _ _ _ _).mono ?_; rintro e w2 ⟨rfl, rfl⟩
          rw [hw]
          go_wp2
        · (go_ret2; exact ⟨⟨_, _⟩, rfl, outR_none HO.out rfl, by (repeat (first | with_reducible exact Below.refl _ _ | with_reducible exact below_regrown _ _ _ | with_reducible refine bel_step0 (by assumption) ?_ | with_reducible refine bel_alloc0 ?_ _ | with_reducible refine bel_regrown0 ?_ _ _ | with_reducible refine bel_regrown ?_ (by first | omega | (simp; done) | (simp; omega)) _ _ | with_reducible refine below_drewN ?_ _ | with_reducible refine Below.drew ?_ | with_reducible refine Below.alloc ?_ (by first | omega | (simp; done) | (simp; omega)) _ | with_reducible refine Below.setCell ?_ (by first | omega | (simp; done) | (simp; omega)) _ | with_reducible refine bel_step (by assumption) (by first | omega | (simp; done) | (simp; omega)) ?_ | with_reducible refine bel_grown (by assumption) (by first | omega | (simp; done) | (simp; omega)) (by first | omega | (simp; done) | (simp; omega)) ?_))⟩)
        · (go_ret2; exact ⟨⟨_, _⟩, rfl, outR_some HO.out rfl rfl, by (repeat (first | with_reducible exact Below.refl _ _ | with_reducible exact below_regrown _ _ _ | with_reducible refine bel_step0 (by assumption) ?_ | with_reducible refine bel_alloc0 ?_ _ | with_reducible refine bel_regrown0 ?_ _ _ | with_reducible refine bel_regrown ?_ (by first | omega | (simp; done) | (simp; omega)) _ _ | with_reducible refine below_drewN ?_ _ | with_reducible refine Below.drew ?_ | with_reducible refine Below.alloc ?_ (by first | omega | (simp; done) | (simp; omega)) _ | with_reducible refine Below.setCell ?_ (by first | omega | (simp; done) | (simp; omega)) _ | with_reducible refine bel_step (by assumption) (by first | omega | (simp; done) | (simp; omega)) ?_ | with_reducible refine bel_grown (by assumption) (by first | omega | (simp; done) | (simp; omega)) (by first | omega | (simp; done) | (simp; omega)) ?_))⟩)
      · cases hw : within n 1 999
        all_goals
          have HO := HT.out
          rw [show okT 105 n = within n 1 999 by unfold okT; simp, hw] at HO
          have HO := Lib.hid HO
          go_enter Tryz.func111, Tryz.ntmps111
          go_wp2_with fail
          refine (HN.out _).mono ?_; rintro e w1 ⟨rfl, hb1⟩
          obtain ⟨x0, x1, x2, x3⟩ := box_new rfl (by simpa using hb1)
          go_wp2_with fail
          refine (C_l1In _ _ _ _).mono ?_; rintro e w2 ⟨rfl, rfl⟩
          rw [hw]
          go_wp2
        · (go_ret2; exact ⟨⟨_, _⟩, rfl, outR_none HO.out rfl, by (repeat (first | with_reducible exact Below.refl _ _ | with_reducible exact below_regrown _ _ _ | with_reducible refine bel_step0 (by assumption) ?_ | with_reducible refine bel_alloc0 ?_ _ | with_reducible refine bel_regrown0 ?_ _ _ | with_reducible refine bel_regrown ?_ (by first | omega | (simp; done) | (simp; omega)) _ _ | with_reducible refine below_drewN ?_ _ | with_reducible refine Below.drew ?_ | with_reducible refine Below.alloc ?_ (by first | omega | (simp; done) | (simp; omega)) _ | with_reducible refine Below.setCell ?_ (by first | omega | (simp; done) | (simp; omega)) _ | with_reducible refine bel_step (by assumption) (by first | omega | (simp; done) | (simp; omega)) ?_ | with_reducible refine bel_grown (by assumption) (by first | omega | (simp; done) | (simp; omega)) (by first | omega | (simp; done) | (simp; omega)) ?_))⟩)
        · (go_ret2; exact ⟨⟨_, _⟩, rfl, outR_some HO.out rfl rfl, by (repeat (first | with_reducible exact Below.refl _ _ | with_reducible exact below_regrown _ _ _ | with_reducible refine bel_step0 (by assumption) ?_ | with_reducible refine bel_alloc0 ?_ _ | with_reducible refine bel_regrown0 ?_ _ _ | with_reducible refine bel_regrown ?_ (by first | omega | (simp; done) | (simp; omega)) _ _ | with_reducible refine below_drewN ?_ _ | with_reducible refine Below.drew ?_ | with_reducible refine Below.alloc ?_ (by first | omega | (simp; done) | (simp; omega)) _ | with_reducible refine Below.setCell ?_ (by first | omega | (simp; done) | (simp; omega)) _ | with_reducible refine bel_step (by assumption) (by first | omega | (simp; done) | (simp; omega)) ?_ | with_reducible refine bel_grown (by assumption) (by first | omega | (simp; done) | (simp; omega)) (by first | omega | (simp; done) | (simp; omega)) ?_))⟩)
      · cases hw : within n 1 9
        all_goals
          have HO := HT.out
          rw [show okT 101 n = within n 1 9 by unfold okT; simp, hw] at HO
          have HO := Lib.hid HO
          go_enter Tryz.func111, Tryz.ntmps111
          go_wp2_with fail
          refine (HN.out _).mono ?_; rintro e w1 ⟨rfl, hb1⟩
          obtain ⟨x0, x1, x2, x3⟩ := box_new rfl (by simpa using hb1)
          go_wp2_with fail
          refine (C_l1In _ _ _ _).mono ?_; rintro e w2 ⟨rfl, rfl⟩
          rw [hw]
        · go_wp2
          (go_ret2; exact ⟨⟨_, _⟩, rfl, outR_none HO.out rfl, by (repeat (first | with_reducible exact Below.refl _ _ | with_reducible exact below_regrown _ _ _ | with_reducible refine bel_step0 (by assumption) ?_ | with_reducible refine bel_alloc0 ?_ _ | with_reducible refine bel_regrown0 ?_ _ _ | with_reducible refine bel_regrown ?_ (by first | omega | (simp; done) | (simp; omega)) _ _ | with_reducible refine below_drewN ?_ _ | with_reducible refine Below.drew ?_ | with_reducible refine Below.alloc ?_ (by first | omega | (simp; done) | (simp; omega)) _ | with_reducible refine Below.setCell ?_ (by first | omega | (simp; done) | (simp; omega)) _ | with_reducible refine bel_step (by assumption) (by first | omega | (simp; done) | (simp; omega)) ?_ | with_reducible refine bel_grown (by assumption) (by first | omega | (simp; done) | (simp; omega)) (by first | omega | (simp; done) | (simp; omega)) ?_))⟩)
        · go_wp2_with fail
          have hk0 : (n == 0) = false := by unfold within at hw; rw [Bool.and_eq_true, decide_eq_true_eq, decide_eq_true_eq] at hw; rw [beq_eq_false_iff_ne]; omega
          refine (C_l2DayOf R sv n _ hk0 (HEV.out.below hb1)).mono ?_; rintro e w3 ⟨rfl, hb3⟩
          go_wp2
          (go_ret2; exact ⟨⟨_, _⟩, rfl, outR_some HO.out rfl rfl, by (repeat (first | with_reducible exact Below.refl _ _ | with_reducible exact below_regrown _ _ _ | with_reducible refine bel_step0 (by assumption) ?_ | with_reducible refine bel_alloc0 ?_ _ | with_reducible refine bel_regrown0 ?_ _ _ | with_reducible refine bel_regrown ?_ (by first | omega | (simp; done) | (simp; omega)) _ _ | with_reducible refine below_drewN ?_ _ | with_reducible refine Below.drew ?_ | with_reducible refine Below.alloc ?_ (by first | omega | (simp; done) | (simp; omega)) _ | with_reducible refine Below.setCell ?_ (by first | omega | (simp; done) | (simp; omega)) _ | with_reducible refine bel_step (by assumption) (by first | omega | (simp; done) | (simp; omega)) ?_ | with_reducible refine bel_grown (by assumption) (by first | omega | (simp; done) | (simp; omega)) (by first | omega | (simp; done) | (simp; omega)) ?_))⟩)
      · cases hw : within n 0 20000
        all_goals
          have HO := HT.out
          rw [show okT 97 n = within n 0 20000 by unfold okT; simp, hw] at HO
          have HO := Lib.hid HO
          go_enter Tryz.func111, Tryz.ntmps111
          go_wp2_with fail
          refine (HN.out _).mono ?_; rintro e w1 ⟨rfl, hb1⟩
          obtain ⟨x0, x1, x2, x3⟩ := box_new rfl (by simpa using hb1)
          go_wp2_with fail
          refine (C_l2Day _ _).mono ?_; rintro e w2 ⟨rfl, rfl⟩
          rw [hw]
          go_wp2
        · (go_ret2; exact ⟨⟨_, _⟩, rfl, outR_none HO.out rfl, by (repeat (first | with_reducible exact Below.refl _ _ | with_reducible exact below_regrown _ _ _ | with_reducible refine bel_step0 (by assumption) ?_ | with_reducible refine bel_alloc0 ?_ _ | with_reducible refine bel_regrown0 ?_ _ _ | with_reducible refine bel_regrown ?_ (by first | omega | (simp; done) | (simp; omega)) _ _ | with_reducible refine below_drewN ?_ _ | with_reducible refine Below.drew ?_ | with_reducible refine Below.alloc ?_ (by first | omega | (simp; done) | (simp; omega)) _ | with_reducible refine Below.setCell ?_ (by first | omega | (simp; done) | (simp; omega)) _ | with_reducible refine bel_step (by assumption) (by first | omega | (simp; done) | (simp; omega)) ?_ | with_reducible refine bel_grown (by assumption) (by first | omega | (simp; done) | (simp; omega)) (by first | omega | (simp; done) | (simp; omega)) ?_))⟩)
        · (go_ret2; exact ⟨⟨_, _⟩, rfl, outR_some HO.out rfl rfl, by (repeat (first | with_reducible exact Below.refl _ _ | with_reducible exact below_regrown _ _ _ | with_reducible refine bel_step0 (by assumption) ?_ | with_reducible refine bel_alloc0 ?_ _ | with_reducible refine bel_regrown0 ?_ _ _ | with_reducible refine bel_regrown ?_ (by first | omega | (simp; done) | (simp; omega)) _ _ | with_reducible refine below_drewN ?_ _ | with_reducible refine Below.drew ?_ | with_reducible refine Below.alloc ?_ (by first | omega | (simp; done) | (simp; omega)) _ | with_reducible refine Below.setCell ?_ (by first | omega | (simp; done) | (simp; omega)) _ | with_reducible refine bel_step (by assumption) (by first | omega | (simp; done) | (simp; omega)) ?_ | with_reducible refine bel_grown (by assumption) (by first | omega | (simp; done) | (simp; omega)) (by first | omega | (simp; done) | (simp; omega)) ?_))⟩)
      · have HO := HT.out
        rw [show okT c n = false by unfold okT; rw [decide_eq_false d1, decide_eq_false d2, decide_eq_false d3, decide_eq_false d4]; rfl] at HO
        have HO := Lib.hid HO
        have e1 : ((c : Int) == 115) = false := by rw [beq_eq_false_iff_ne]; omega
        have e2 : ((c : Int) == 105) = false := by rw [beq_eq_false_iff_ne]; omega
        have e3 : ((c : Int) == 101) = false := by rw [beq_eq_false_iff_ne]; omega
        have e4 : ((c : Int) == 97) = false := by rw [beq_eq_false_iff_ne]; omega
        go_enter Tryz.func111, Tryz.ntmps111
        go_wp2_with fail
        refine (HN.out _).mono ?_; rintro e w1 ⟨rfl, hb1⟩
        go_wp2
        (go_ret2; exact ⟨⟨_, _⟩, rfl, outR_none HO.out rfl, by (repeat (first | with_reducible exact Below.refl _ _ | with_reducible exact below_regrown _ _ _ | with_reducible refine bel_step0 (by assumption) ?_ | with_reducible refine bel_alloc0 ?_ _ | with_reducible refine bel_regrown0 ?_ _ _ | with_reducible refine bel_regrown ?_ (by first | omega | (simp; done) | (simp; omega)) _ _ | with_reducible refine below_drewN ?_ _ | with_reducible refine Below.drew ?_ | with_reducible refine Below.alloc ?_ (by first | omega | (simp; done) | (simp; omega)) _ | with_reducible refine Below.setCell ?_ (by first | omega | (simp; done) | (simp; omega)) _ | with_reducible refine bel_step (by assumption) (by first | omega | (simp; done) | (simp; omega)) ?_ | with_reducible refine bel_grown (by assumption) (by first | omega | (simp; done) | (simp; omega)) (by first | omega | (simp; done) | (simp; omega)) ?_))⟩)
  · have hlt2 : ¬ (a : Int) < (s.size : Int) := by omega
    have HO := Lib.hid (outR_none (r := rqS R) (x := ⟨false, -1⟩) (show tstQ s.size (bN s) (numA s) a = none by unfold tstQ; rw [if_neg hlt]) rfl)
    go_enter Tryz.func111, Tryz.ntmps111
    go_wp2
    (go_ret2; exact ⟨⟨_, _⟩, rfl, HO.out, by (repeat (first | with_reducible exact Below.refl _ _ | with_reducible exact below_regrown _ _ _ | with_reducible refine bel_step0 (by assumption) ?_ | with_reducible refine bel_alloc0 ?_ _ | with_reducible refine bel_regrown0 ?_ _ _ | with_reducible refine bel_regrown ?_ (by first | omega | (simp; done) | (simp; omega)) _ _ | with_reducible refine below_drewN ?_ _ | with_reducible refine Below.drew ?_ | with_reducible refine Below.alloc ?_ (by first | omega | (simp; done) | (simp; omega)) _ | with_reducible refine Below.setCell ?_ (by first | omega | (simp; done) | (simp; omega)) _ | with_reducible refine bel_step (by assumption) (by first | omega | (simp; done) | (simp; omega)) ?_ | with_reducible refine bel_grown (by assumption) (by first | omega | (simp; done) | (simp; omega)) (by first | omega | (simp; done) | (simp; omega)) ?_))⟩)
end Go.Proofs.YtjmfkenhnfdbjaaGreatDoor
