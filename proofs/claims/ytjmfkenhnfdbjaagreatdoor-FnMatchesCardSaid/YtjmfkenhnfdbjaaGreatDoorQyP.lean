/- The reference's terms and queries. No condition but those stated. -/
import Derived.Test.YtjmfkenhnfdbjaaGreatDoorQyO
namespace Go.Proofs.YtjmfkenhnfdbjaaGreatDoor
set_option linter.unusedVariables false
set_option linter.unusedSimpArgs false
open Go.RowKit Go.Sort
def evalL (or_ : Bool) (r : Rq) (L : List Qy) : Bool := (Qy.seq or_ L.length (atQ L)).eval r
theorem atQ_left {L : List Qy} {q : Qy} {j : Nat} (h : j < L.length) : atQ (L ++ [q]) j = atQ L j := by
  unfold atQ; rw [List.getD_eq_getElem?_getD, List.getD_eq_getElem?_getD, List.getElem?_append_left h]
theorem atQ_last {L : List Qy} {q : Qy} : atQ (L ++ [q]) L.length = q := by
  unfold atQ; rw [List.getD_eq_getElem?_getD, List.getElem?_append_right (Nat.le_refl _), Nat.sub_self]; rfl
def joinB (or_ : Bool) (x y : Bool) : Bool := match or_ with
  | true => x || y
  | false => x && y
theorem evalL_snoc (or_ : Bool) (r : Rq) (L : List Qy) (q : Qy) : evalL or_ r (L ++ [q]) = joinB or_ (evalL or_ r L) (q.eval r) := by
  cases or_
  · show allB (L ++ [q]).length (fun j => (atQ (L ++ [q]) j).eval r) = (allB L.length (fun j => (atQ L j).eval r) && q.eval r)
    rw [List.length_append, List.length_singleton, allB_succ, atQ_last, allB_congr fun j hj => by rw [atQ_left hj]]
  · show anyB (L ++ [q]).length (fun j => (atQ (L ++ [q]) j).eval r) = (anyB L.length (fun j => (atQ L j).eval r) || q.eval r)
    rw [List.length_append, List.length_singleton, anyB_succ, atQ_last, anyB_congr fun j hj => by rw [atQ_left hj]]
theorem evalL_one (or_ : Bool) (r : Rq) (q : Qy) : evalL or_ r [q] = q.eval r := by
  cases or_
  · show allB 1 (fun j => (atQ [q] j).eval r) = _
    rw [allB_succ, allB_zero, Bool.true_and]; rfl
  · show anyB 1 (fun j => (atQ [q] j).eval r) = _
    rw [anyB_succ, anyB_zero, Bool.false_or]; rfl
/-- Where a reading of parts stands. -/
def JR (s : ByteArray) (part : Nat → Option Out) (sgn : Nat) (or_ : Bool) (r : Rq) (a : Nat) (y : Bool) (e : Int) : Prop :=
  (∃ (L : List Qy) (d e' k : Nat), y = evalL or_ r L ∧ e = (e' : Int) ∧ pJ s.size (bN s) part sgn or_ a = outJ or_ (loopQ s.size (bN s) part sgn k L d e') ∧ s.size < k + e' ∧ e' ≤ s.size ∧ a ≤ e') ∨
  (e = -1 ∧ pJ s.size (bN s) part sgn or_ a = none)
section
variable {s : ByteArray} {part : Nat → Option Out} {sgn : Nat} {or_ : Bool} {r : Rq} {a : Nat}
theorem JR.start {x : YE} (hend : ∀ a o, a ≤ s.size → part a = some o → a < o.e ∧ o.e ≤ s.size) (ha : a ≤ s.size) (h : OutR r (part a) x) : JR s part sgn or_ r a x.y x.e := by
  cases hp : part a with
  | none =>
    rw [hp] at h
    exact .inr ⟨h, pJ_no hp⟩
  | some o =>
    rw [hp] at h
    have := hend a o ha hp
    exact .inl ⟨[o.q], o.d, o.e, s.size + 1, by rw [evalL_one]; exact h.1, h.2, pJ_some hp, by omega, this.2, by omega⟩
theorem JR.next {y : Bool} {e' : Nat} {x : YE} (hend : ∀ a o, a ≤ s.size → part a = some o → a < o.e ∧ o.e ≤ s.size) (hh : hitB s e' sgn = true) (h : OutR r (part (e' + 1)) x) (hj : JR s part sgn or_ r a y e') :
    JR s part sgn or_ r a (joinB or_ y x.y) x.e ∧ (x.e < 0 ∨ (e' : Int) < x.e ∧ x.e ≤ s.size) := by
  rcases hj with ⟨L, d, e1, k, h1, h2, h3, h4, h5, h6⟩ | ⟨h1, _⟩
  · obtain rfl : e' = e1 := by omega
    unfold hitB at hh
    rw [Bool.and_eq_true, decide_eq_true_eq, decide_eq_true_eq] at hh
    obtain ⟨k, rfl⟩ : ∃ k', k = k' + 1 := ⟨k - 1, by omega⟩
    cases hp : part (e' + 1) with
    | none =>
      rw [hp] at h
      have h : x.e = -1 := h
      exact ⟨.inr ⟨h, by rw [h3, loopQ_none hh hp]; rfl⟩, .inl (by omega)⟩
    | some o =>
      rw [hp] at h
      have he := hend (e' + 1) o hh.1 hp
      have h2 := h.2
      refine ⟨.inl ⟨L ++ [o.q], max d o.d, o.e, k, by rw [evalL_snoc, h1, h.1], h.2, by rw [h3, loopQ_some hh hp], by omega, he.2, by omega⟩, .inr (by omega)⟩
  · omega
theorem JR.stop {y : Bool} {e' : Nat} (hh : hitB s e' sgn = false) (hj : JR s part sgn or_ r a y e') : OutR r (pJ s.size (bN s) part sgn or_ a) ⟨y, e'⟩ := by
  rcases hj with ⟨L, d, e1, k, h1, h2, h3, h4, h5, h6⟩ | ⟨h1, _⟩
  · obtain rfl : e' = e1 := by omega
    obtain ⟨k, rfl⟩ : ∃ k', k = k' + 1 := ⟨k - 1, by omega⟩
    rw [loopQ_stop (hit_no hh)] at h3
    exact outR_some h3 h1 rfl
  · omega
theorem JR.bad {y : Bool} (hj : JR s part sgn or_ r a y (-1)) : OutR r (pJ s.size (bN s) part sgn or_ a) ⟨y, -1⟩ := by
  rcases hj with ⟨L, d, e1, k, h1, h2, h3, h4, h5, h6⟩ | ⟨_, h⟩
  · omega
  · exact outR_none h rfl
theorem JR.form {y : Bool} {e : Int} (hj : JR s part sgn or_ r a y e) : e = -1 ∨ ∃ e' : Nat, e = e' ∧ e' ≤ s.size ∧ a ≤ e' := by
  rcases hj with ⟨L, d, e1, k, h1, h2, h3, h4, h5, h6⟩ | ⟨h, _⟩
  · exact .inr ⟨e1, h2, h5, h6⟩
  · exact .inl h
end
theorem Box.below {w w' : World} {B : Nat} {R : Rc} {sv : Value} (hB : B < w.heap.size) (hb : Below w.heap.size w w') (h : Box w B R sv) : Box w' B R sv :=
  have hk := hb.block B hB
  ⟨(World.cell?_of_block (w := w) (a := ⟨B, 0, none⟩) hk).trans h.1, (World.cell?_of_block (w := w) (a := ⟨B, 1, none⟩) hk).trans h.2.1, (World.cell?_of_block (w := w) (a := ⟨B, 2, none⟩) hk).trans h.2.2.1, (World.cell?_of_block (w := w) (a := ⟨B, 3, none⟩) hk).trans h.2.2.2⟩
theorem no_hit {s : ByteArray} {j c : Nat} (hj : j ≤ s.size) (h : hitB s j c = false) : (j = s.size) ∨ (∃ h : j < s.size, ((s[j].toNat : Int) == (c : Int)) = false) := by
  by_cases e : j < s.size
  · refine .inr ⟨e, ?_⟩
    have := hit_no h
    rw [bN_at e] at this
    rw [beq_eq_false_iff_ne]
    intro h2
    exact this ⟨e, by omega⟩
  · exact .inl (by omega)
def msE (s : ByteArray) (e : Value) : Nat := match e with
  | .int _ n => if n < 0 then 0 else s.size + 1 - n.toNat
  | _ => 0
theorem msE_lt {s : ByteArray} {j : Nat} {e : Int} (hj : j ≤ s.size) (h : e < 0 ∨ (j : Int) < e ∧ e ≤ s.size) : msE s (.int .i64 e) < msE s (.int .i64 (j : Int)) := by
  show (if e < 0 then 0 else s.size + 1 - e.toNat) < (if (j : Int) < 0 then 0 else s.size + 1 - (j : Int).toNat)
  rw [if_neg (show ¬ ((j : Int) < 0) by omega)]
  rcases h with h | h
  · rw [if_pos h]; omega
  · rw [if_neg (by omega)]; omega
set_option maxHeartbeats 8000000 in
theorem C_l19Term (R : Rc) (sv : Value) (s : ByteArray) (hs : s.size ≤ 1048576) (K : Nat) (HP : ∀ a w, s.size < K + a → a ≤ s.size → EvS w sv R → Calls Tryz.prog 96 #[.string s, .int .i64 (a : Nat), .agg #[.int .i64 (R).id, .int .i64 (R).ser, .int .i64 (R).made, sv]] w fun e w' => ∃ x : YE, e = .returned (.tuple #[.bool x.y, .int .i64 x.e]) ∧ OutR (rqS R) (pFac s.size (bN s) (numA s) K a) x ∧ Below w.heap.size w w') (a : Nat) (w : World) (hK : s.size < K + a) (ha : a ≤ s.size) (h : EvS w sv R) :
    Calls Tryz.prog 88 #[.string s, .int .i64 a, .agg #[.int .i64 (R).id, .int .i64 (R).ser, .int .i64 (R).made, sv]] w fun e w' => ∃ x : YE, e = .returned (.tuple #[.bool x.y, .int .i64 x.e]) ∧ OutR (rqS R) (pTer s.size (bN s) (numA s) K a) x ∧ Below w.heap.size w w' := by
  have HH := Lib.hid h
  have HPP := Lib.hid HP
  have HEND : Hid (∀ a o, a ≤ s.size → pFac s.size (bN s) (numA s) K a = some o → a < o.e ∧ o.e ≤ s.size) := Lib.hid fun a o h1 h2 => pFac_end (numOk s) K a o h1 h2
  clear h HP
  have B0 : Below w.heap.size w (w.alloc (.cells #[.int .i64 R.id, .int .i64 R.ser, .int .i64 R.made, sv] 26)) := (Below.refl _ _).alloc (Nat.le_refl _) _
  have HB0 := Lib.hid B0
  have HEV := Lib.hid (HH.out.below B0)
  clear B0
  go_enter Tryz.func88, Tryz.ntmps88
  go_wp2_with fail
  refine (HPP.out a _ hK ha HEV.out).mono ?_; rintro e w1 ⟨x, rfl, ho, hb1⟩
  have hbx := box_new rfl (by simpa using hb1)
  have HJ0 := Lib.hid (JR.start (sgn := 38) (or_ := false) HEND.out ha ho)
  have HB1 := Lib.hid (show Below w.heap.size w w1 by (repeat (first | with_reducible exact Below.refl _ _ | with_reducible exact below_regrown _ _ _ | with_reducible refine bel_step0 (by assumption) ?_ | with_reducible refine bel_alloc0 ?_ _ | with_reducible refine bel_regrown0 ?_ _ _ | with_reducible refine bel_regrown ?_ (by first | omega | (simp; done) | (simp; omega)) _ _ | with_reducible refine below_drewN ?_ _ | with_reducible refine Below.drew ?_ | with_reducible refine Below.alloc ?_ (by first | omega | (simp; done) | (simp; omega)) _ | with_reducible refine Below.setCell ?_ (by first | omega | (simp; done) | (simp; omega)) _ | with_reducible refine bel_step (by assumption) (by first | omega | (simp; done) | (simp; omega)) ?_ | with_reducible refine bel_grown (by assumption) (by first | omega | (simp; done) | (simp; omega)) (by first | omega | (simp; done) | (simp; omega)) ?_)))
  have hz1 : w.heap.size < w1.heap.size := by have := hb1.size; simp at this; omega
  have HBX := Lib.hid hbx
  clear ho hb1 hbx
  go_wp2
  go_loopw [8, 9] (fun y e wr => ∃ st : YE, y = .bool st.y ∧ e = .int .i64 st.e ∧ JR s (pFac s.size (bN s) (numA s) K) 38 false (rqS R) a st.y st.e ∧ Below w.heap.size w wr ∧ Box wr w.heap.size R sv ∧ w.heap.size < wr.heap.size) (fun y e wr => msE s e)
  case atStart => exact ⟨x, rfl, rfl, HJ0.out, HB1.out, HBX.out, hz1⟩
  case round =>
    obtain ⟨st, rfl, rfl, hj, hb, hbx, hz⟩ := hrel
    clear HJ0 HB1 HBX hz1
    obtain ⟨y, hy⟩ : ∃ b, st.y = b := ⟨_, rfl⟩
    rw [hy] at hj ⊢
    have hform := hj.form
    have HB := Lib.hid hb
    have HJ := Lib.hid hj
    obtain ⟨x0, x1, x2, x3⟩ := hbx
    have HBX := Lib.hid (show Box wr w.heap.size R sv from ⟨x0, x1, x2, x3⟩)
    clear hy hj hb
    obtain ⟨e, he⟩ : ∃ e, st.e = e := ⟨_, rfl⟩
    rw [he] at HJ hform ⊢
    clear he
    rcases hform with rfl | ⟨j, rfl, hjs, hja⟩
    · go_wp2
      (go_ret2; exact ⟨⟨_, _⟩, rfl, JR.bad HJ.out, HB.out⟩)
    · have hj0 : (0 : Int) ≤ (j : Int) := by omega
      cases hh : hitB s j 38
      · have HO := Lib.hid (JR.stop hh HJ.out)
        have hways := no_hit hjs hh
        clear hh
        rcases hways with rfl | ⟨e, e1⟩
        · go_wp2
          (go_ret2; exact ⟨⟨_, _⟩, rfl, HO.out, HB.out⟩)
        · have hlt2 : (j : Int) < (s.size : Int) := by omega
          go_wp2
          (go_ret2; exact ⟨⟨_, _⟩, rfl, HO.out, HB.out⟩)
      · have HHIT := Lib.hid hh
        have hj2 := hh
        unfold hitB at hj2
        rw [Bool.and_eq_true, decide_eq_true_eq, decide_eq_true_eq] at hj2
        obtain ⟨hlt, hc⟩ := hj2
        rw [bN_at hlt] at hc
        have hlt2 : (j : Int) < (s.size : Int) := by omega
        have h1 : ((j + 1 : Nat) : Int) = (j : Int) + 1 := by omega
        have HC := Lib.hid (HPP.out (j + 1) wr (by omega) hlt (HH.out.below HB.out))
        rw [h1] at HC
        clear h1 hh
        go_wp2_with fail
        refine HC.out.mono ?_; rintro e' w3 ⟨x, rfl, ho, hb3⟩
        have HN := Lib.hid (JR.next HEND.out HHIT.out ho HJ.out)
        have HBB := Lib.hid (bel_step0 hb3 HB.out)
        have HBX3 := Lib.hid (HBX.out.below hz hb3)
        have hz3 : w.heap.size < w3.heap.size := Nat.lt_of_lt_of_le hz hb3.size
        clear ho hb3 HC
        obtain ⟨m, hm⟩ : ∃ b, x.y = b := ⟨_, rfl⟩
        obtain ⟨e2, he2⟩ : ∃ b, x.e = b := ⟨_, rfl⟩
        rw [hm, he2] at HN
        rw [hm, he2]
        clear hm he2
        cases y
        all_goals
          cases m
          all_goals
            go_wp2
            go_roundw
            case rel => exact ⟨⟨_, e2⟩, rfl, rfl, HN.out.1, HBB.out, HBX3.out, hz3⟩
            case measure => exact msE_lt hjs HN.out.2
set_option maxHeartbeats 8000000 in
theorem C_l19QueryP (R : Rc) (sv : Value) (s : ByteArray) (hs : s.size ≤ 1048576) (K : Nat) (HP : ∀ a w, s.size < K + a → a ≤ s.size → EvS w sv R → Calls Tryz.prog 88 #[.string s, .int .i64 (a : Nat), .agg #[.int .i64 (R).id, .int .i64 (R).ser, .int .i64 (R).made, sv]] w fun e w' => ∃ x : YE, e = .returned (.tuple #[.bool x.y, .int .i64 x.e]) ∧ OutR (rqS R) (pTer s.size (bN s) (numA s) K a) x ∧ Below w.heap.size w w') (a : Nat) (w : World) (hK : s.size < K + a) (ha : a ≤ s.size) (h : EvS w sv R) :
    Calls Tryz.prog 73 #[.string s, .int .i64 a, .agg #[.int .i64 (R).id, .int .i64 (R).ser, .int .i64 (R).made, sv]] w fun e w' => ∃ x : YE, e = .returned (.tuple #[.bool x.y, .int .i64 x.e]) ∧ OutR (rqS R) (pQue s.size (bN s) (numA s) K a) x ∧ Below w.heap.size w w' := by
  have HH := Lib.hid h
  have HPP := Lib.hid HP
  have HEND : Hid (∀ a o, a ≤ s.size → pTer s.size (bN s) (numA s) K a = some o → a < o.e ∧ o.e ≤ s.size) := Lib.hid fun a o h1 h2 => pTer_end (numOk s) K a o h1 h2
  clear h HP
  have B0 : Below w.heap.size w (w.alloc (.cells #[.int .i64 R.id, .int .i64 R.ser, .int .i64 R.made, sv] 26)) := (Below.refl _ _).alloc (Nat.le_refl _) _
  have HB0 := Lib.hid B0
  have HEV := Lib.hid (HH.out.below B0)
  clear B0
  go_enter Tryz.func73, Tryz.ntmps73
  go_wp2_with fail
  refine (HPP.out a _ hK ha HEV.out).mono ?_; rintro e w1 ⟨x, rfl, ho, hb1⟩
  have hbx := box_new rfl (by simpa using hb1)
  have HJ0 := Lib.hid (JR.start (sgn := 124) (or_ := true) HEND.out ha ho)
  have HB1 := Lib.hid (show Below w.heap.size w w1 by (repeat (first | with_reducible exact Below.refl _ _ | with_reducible exact below_regrown _ _ _ | with_reducible refine bel_step0 (by assumption) ?_ | with_reducible refine bel_alloc0 ?_ _ | with_reducible refine bel_regrown0 ?_ _ _ | with_reducible refine bel_regrown ?_ (by first | omega | (simp; done) | (simp; omega)) _ _ | with_reducible refine below_drewN ?_ _ | with_reducible refine Below.drew ?_ | with_reducible refine Below.alloc ?_ (by first | omega | (simp; done) | (simp; omega)) _ | with_reducible refine Below.setCell ?_ (by first | omega | (simp; done) | (simp; omega)) _ | with_reducible refine bel_step (by assumption) (by first | omega | (simp; done) | (simp; omega)) ?_ | with_reducible refine bel_grown (by assumption) (by first | omega | (simp; done) | (simp; omega)) (by first | omega | (simp; done) | (simp; omega)) ?_)))
  have hz1 : w.heap.size < w1.heap.size := by have := hb1.size; simp at this; omega
  have HBX := Lib.hid hbx
  clear ho hb1 hbx
  go_wp2
  go_loopw [8, 9] (fun y e wr => ∃ st : YE, y = .bool st.y ∧ e = .int .i64 st.e ∧ JR s (pTer s.size (bN s) (numA s) K) 124 true (rqS R) a st.y st.e ∧ Below w.heap.size w wr ∧ Box wr w.heap.size R sv ∧ w.heap.size < wr.heap.size) (fun y e wr => msE s e)
  case atStart => exact ⟨x, rfl, rfl, HJ0.out, HB1.out, HBX.out, hz1⟩
  case round =>
    obtain ⟨st, rfl, rfl, hj, hb, hbx, hz⟩ := hrel
    clear HJ0 HB1 HBX hz1
    obtain ⟨y, hy⟩ : ∃ b, st.y = b := ⟨_, rfl⟩
    rw [hy] at hj ⊢
    have hform := hj.form
    have HB := Lib.hid hb
    have HJ := Lib.hid hj
    obtain ⟨x0, x1, x2, x3⟩ := hbx
    have HBX := Lib.hid (show Box wr w.heap.size R sv from ⟨x0, x1, x2, x3⟩)
    clear hy hj hb
    obtain ⟨e, he⟩ : ∃ e, st.e = e := ⟨_, rfl⟩
    rw [he] at HJ hform ⊢
    clear he
    rcases hform with rfl | ⟨j, rfl, hjs, hja⟩
    · go_wp2
      (go_ret2; exact ⟨⟨_, _⟩, rfl, JR.bad HJ.out, HB.out⟩)
    · have hj0 : (0 : Int) ≤ (j : Int) := by omega
      cases hh : hitB s j 124
      · have HO := Lib.hid (JR.stop hh HJ.out)
        have hways := no_hit hjs hh
        clear hh
        rcases hways with rfl | ⟨e, e1⟩
        · go_wp2
          (go_ret2; exact ⟨⟨_, _⟩, rfl, HO.out, HB.out⟩)
        · have hlt2 : (j : Int) < (s.size : Int) := by omega
          go_wp2
          (go_ret2; exact ⟨⟨_, _⟩, rfl, HO.out, HB.out⟩)
      · have HHIT := Lib.hid hh
        have hj2 := hh
        unfold hitB at hj2
        rw [Bool.and_eq_true, decide_eq_true_eq, decide_eq_true_eq] at hj2
        obtain ⟨hlt, hc⟩ := hj2
        rw [bN_at hlt] at hc
        have hlt2 : (j : Int) < (s.size : Int) := by omega
        have h1 : ((j + 1 : Nat) : Int) = (j : Int) + 1 := by omega
        have HC := Lib.hid (HPP.out (j + 1) wr (by omega) hlt (HH.out.below HB.out))
        rw [h1] at HC
        clear h1 hh
        go_wp2_with fail
        refine HC.out.mono ?_; rintro e' w3 ⟨x, rfl, ho, hb3⟩
        have HN := Lib.hid (JR.next HEND.out HHIT.out ho HJ.out)
        have HBB := Lib.hid (bel_step0 hb3 HB.out)
        have HBX3 := Lib.hid (HBX.out.below hz hb3)
        have hz3 : w.heap.size < w3.heap.size := Nat.lt_of_lt_of_le hz hb3.size
        clear ho hb3 HC
        obtain ⟨m, hm⟩ : ∃ b, x.y = b := ⟨_, rfl⟩
        obtain ⟨e2, he2⟩ : ∃ b, x.e = b := ⟨_, rfl⟩
        rw [hm, he2] at HN
        rw [hm, he2]
        clear hm he2
        cases y
        all_goals
          cases m
          all_goals
            go_wp2
            go_roundw
            case rel => exact ⟨⟨_, e2⟩, rfl, rfl, HN.out.1, HBB.out, HBX3.out, hz3⟩
            case measure => exact msE_lt hjs HN.out.2
end Go.Proofs.YtjmfkenhnfdbjaaGreatDoor
