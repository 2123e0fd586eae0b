/- Crossed looks: the reference. No condition but those stated. -/
import Derived.Test.YtmhelhjjadoiaaaGreatDoorLkP
namespace Go.Proofs.YtmhelhjjadoiaaaGreatDoor
set_option linter.unusedVariables false
set_option linter.unusedSimpArgs false
open Go.RowKit Go.Sort
def acB (x y : Lk) : Bool := x.rid == y.rid && x.who != y.who && (x.kind == 2 || y.kind == 2)
def crB (x y : Lk) (z : Int) : Bool := acB x y && decide (y.tick - x.tick ≤ z)
def inC (R : Nat → Lk) (z : Int) (i : Nat) : Nat → List (List Int)
  | 0 => []
  | m + 1 => inC R z i m ++ (if crB (R i) (R (i + 1 + m)) z then [[(i : Int), ((i + 1 + m : Nat) : Int)]] else [])
def outC (R : Nat → Lk) (z : Int) (n : Nat) : Nat → List (List Int)
  | 0 => []
  | k + 1 => outC R z n k ++ inC R z k (n - (k + 1))
theorem inC_le (R : Nat → Lk) (z : Int) (i m : Nat) : (inC R z i m).length ≤ m := by
  induction m with
  | zero => simp [inC]
  | succ m ih => simp only [inC, List.length_append]; split <;> simp <;> omega
theorem inC_no {R : Nat → Lk} {z : Int} {i m : Nat} (h : crB (R i) (R (i + 1 + m)) z = false) : inC R z i (m + 1) = inC R z i m := by
  show inC R z i m ++ (if crB (R i) (R (i + 1 + m)) z then _ else []) = _
  rw [h]; exact List.append_nil _
theorem inC_yes {R : Nat → Lk} {z : Int} {i m : Nat} (h : crB (R i) (R (i + 1 + m)) z = true) : inC R z i (m + 1) = inC R z i m ++ [[(i : Int), ((i + 1 + m : Nat) : Int)]] := by
  show inC R z i m ++ (if crB (R i) (R (i + 1 + m)) z then _ else []) = _
  rw [h]; rfl
theorem outC_le (R : Nat → Lk) (z : Int) (n : Nat) : ∀ k, (outC R z n k).length ≤ k * n := by
  intro k
  induction k with
  | zero => simp [outC]
  | succ k ih =>
    have := inC_le R z k (n - (k + 1))
    simp only [outC, List.length_append]
    rw [Nat.succ_mul]; omega
theorem inC_two (R : Nat → Lk) (z : Int) (i m : Nat) : ∀ r ∈ inC R z i m, r.length = 2 := by
  induction m with
  | zero => intro r hr; cases hr
  | succ m ih =>
    intro r hr
    simp only [inC, List.mem_append] at hr
    rcases hr with h | h
    · exact ih r h
    · split at h
      · simp only [List.mem_singleton] at h; subst h; rfl
      · cases h
theorem outC_two (R : Nat → Lk) (z : Int) (n k : Nat) : ∀ r ∈ outC R z n k, r.length = 2 := by
  induction k with
  | zero => intro r hr; cases hr
  | succ k ih =>
    intro r hr
    simp only [outC, List.mem_append] at hr
    rcases hr with h | h
    · exact ih r h
    · exact inC_two _ _ _ _ r h
def clOk (n : Nat) (R : Nat → Lk) (z : Int) : Bool := accB n R && within z 0 1000000
def clL (n : Nat) (R : Nat → Lk) (z : Int) : List (List Int) := if clOk n R z then outC R z n n else []
theorem clL_le (n : Nat) (R : Nat → Lk) (z : Int) : (clL n R z).length ≤ 225 := by
  unfold clL
  split
  · rename_i h
    unfold clOk at h
    simp only [Bool.and_eq_true] at h
    have h1 := accB_le h.1
    have h2 := outC_le R z n n
    have h3 := Nat.mul_le_mul h1 h1
    omega
  · simp
theorem clL_two (n : Nat) (R : Nat → Lk) (z : Int) (j : Nat) : (at_ (clL n R z) j).length ≤ 2 := by
  unfold at_
  rw [List.getD_eq_getElem?_getD]
  rcases h : (clL n R z)[j]? with _ | r
  · simp
  · have hm := List.mem_of_getElem? h
    unfold clL at hm
    split at hm
    · exact Nat.le_of_eq (outC_two R z n n r hm)
    · cases hm
/-- Two looks, copied. -/
def TwoAt (w : World) (x y : Lk) (s t : Value) (W : World) : Prop :=
  ∃ g1 g2 : Nat, s = .pointer (some ⟨g1, 0, none⟩) ∧ t = .pointer (some ⟨g2, 0, none⟩) ∧ g1 < W.heap.size ∧ g2 < W.heap.size ∧ LkAt W g1 0 x ∧ LkAt W g2 0 y ∧ Below w.heap.size w W
theorem lk_alloc (w : World) (x : Lk) (T : TypeId) : LkAt (w.alloc (.cells #[.int .i64 x.tick, .int .i64 x.who, .int .i64 x.rid, .int .i64 x.kind, .string x.why] T)) w.heap.size 0 x :=
  ⟨cell_new _ _ _ _ _ rfl, cell_new _ _ _ _ _ rfl, cell_new _ _ _ _ _ rfl, cell_new _ _ _ _ _ rfl, cell_new _ _ _ _ _ rfl⟩
theorem lk_old {w : World} {x : Lk} {b : Nat} (h : LkAt w b 0 x) (hb : b < w.heap.size) (o : Obj) : LkAt (w.alloc o) b 0 x := h.block (Below.heap_alloc _ _ _ hb)
theorem two_a (w : World) (x y : Lk) (T : TypeId) : TwoAt w x y (.pointer (some ⟨w.heap.size, 0, none⟩)) (.pointer (some ⟨w.heap.size + 1, 0, none⟩))
    ((w.alloc (.cells #[.int .i64 x.tick, .int .i64 x.who, .int .i64 x.rid, .int .i64 x.kind, .string x.why] T)).alloc (.cells #[.int .i64 y.tick, .int .i64 y.who, .int .i64 y.rid, .int .i64 y.kind, .string y.why] T)) := by
  refine ⟨_, _, rfl, rfl, by simp, by simp, lk_old (lk_alloc w x T) (by simp) _, ?_, (((Below.refl _ _).alloc (Nat.le_refl _) _).alloc (by simp) _)⟩
  have := lk_alloc (w.alloc (.cells #[.int .i64 x.tick, .int .i64 x.who, .int .i64 x.rid, .int .i64 x.kind, .string x.why] T)) y T
  simpa using this
theorem two_b (w : World) (x y : Lk) (T : TypeId) : TwoAt w x y (.pointer (some ⟨w.heap.size + 1, 0, none⟩)) (.pointer (some ⟨w.heap.size, 0, none⟩))
    ((w.alloc (.cells #[.int .i64 y.tick, .int .i64 y.who, .int .i64 y.rid, .int .i64 y.kind, .string y.why] T)).alloc (.cells #[.int .i64 x.tick, .int .i64 x.who, .int .i64 x.rid, .int .i64 x.kind, .string x.why] T)) := by
  obtain ⟨g1, g2, e1, e2, l1, l2, a1, a2, hb⟩ := two_a w y x T
  exact ⟨g2, g1, e2, e1, l2, l1, a2, a1, hb⟩
theorem TwoAt.drew {w : World} {x y : Lk} {s t : Value} {W : World} (h : TwoAt w x y s t W) : TwoAt w x y s t W.drew := by
  obtain ⟨g1, g2, e1, e2, l1, l2, a1, a2, hb⟩ := h
  exact ⟨g1, g2, e1, e2, l1, l2, ⟨a1.1, a1.2, a1.3, a1.4, a1.5⟩, ⟨a2.1, a2.2, a2.3, a2.4, a2.5⟩, hb.drew⟩
set_option maxHeartbeats 8000000 in
theorem C_CrossedLooksS (v : Value) (n : Nat) (R : Nat → Lk) (z : Int) (w : World) (h : LKs w v n R) (hs : ∀ j, j < n → (R j).why.size ≤ 9223372036854775807) :
    Calls Tryz.prog 35 #[v, .int .i64 z] w fun e w' => ∃ v', e = .returned (.tuple #[v', .bool (clOk n R z)]) ∧ OSS w.heap.size w' v' (clL n R z).length (at_ (clL n R z)) ∧ Below w.heap.size w w' := by
  obtain ⟨w0, hw0⟩ : ∃ w0, w0 = w.alloc (.cells #[] 29) := ⟨_, rfl⟩
  have hb0 : Below w.heap.size w w0 := by rw [hw0]; (repeat (first | with_reducible exact Below.refl _ _ | with_reducible exact below_regrown _ _ _ | with_reducible refine bel_step0 (by assumption) ?_ | with_reducible refine bel_alloc0 ?_ _ | with_reducible refine bel_regrown0 ?_ _ _ | with_reducible refine bel_regrown ?_ (by first | omega | (simp; done) | (simp; omega)) _ _ | with_reducible refine below_drewN ?_ _ | with_reducible refine Below.drew ?_ | with_reducible refine Below.alloc ?_ (by first | omega | (simp; done) | (simp; omega)) _ | with_reducible refine Below.setCell ?_ (by first | omega | (simp; done) | (simp; omega)) _ | with_reducible refine bel_step (by assumption) (by first | omega | (simp; done) | (simp; omega)) ?_ | with_reducible refine bel_grown (by assumption) (by first | omega | (simp; done) | (simp; omega)) (by first | omega | (simp; done) | (simp; omega)) ?_))
  have ho0 : ∀ L, OSS w.heap.size w0 (.slice (some ⟨w.heap.size, 0, none⟩) 0 0) 0 L := fun L => by rw [hw0]; exact OSS.empty (Nat.le_refl _) L
  have HW0 := Lib.hid hw0
  have HO0 := Lib.hid ho0
  have HH := Lib.hid (h.below hb0)
  have HS := Lib.hid hs
  obtain ⟨A, cap, rfl, hr, hc, hm⟩ := h
  have HR := Lib.hid hr
  clear hr hs hw0 ho0
  cases hd : accB n R
  · have e0 : clOk n R z = false := by unfold clOk; rw [hd]; rfl
    have e1 : clL n R z = [] := by unfold clL; rw [e0]; rfl
    rw [e0, e1]; clear e0 e1
    go_enter Tryz.func35, Tryz.ntmps35
    go_wp2_with fail
    rw [← HW0.out]
    refine (C_l22Good _ _ _ _ HH.out HS.out).mono ?_; rintro e w1 ⟨rfl, hb1⟩; rw [hd]
    go_wp2_with fail
    go_ret2
    exact ⟨_, rfl, (HO0.out _).below hb1, bel_step0 hb1 hb0⟩
  cases hz : within z 0 1000000
  · have e0 : clOk n R z = false := by unfold clOk; rw [hd, hz]; rfl
    have e1 : clL n R z = [] := by unfold clL; rw [e0]; rfl
    rw [e0, e1]; clear e0 e1
    go_enter Tryz.func35, Tryz.ntmps35
    go_wp2_with fail
    rw [← HW0.out]
    refine (C_l22Good _ _ _ _ HH.out HS.out).mono ?_; rintro e w1 ⟨rfl, hb1⟩; rw [hd]
    go_wp2_with fail
    refine (C_l1In _ _ _ _).mono ?_; rintro e w2 ⟨rfl, rfl⟩; rw [hz]
    go_wp2_with fail
    go_ret2
    exact ⟨_, rfl, (HO0.out _).below hb1, bel_step0 hb1 hb0⟩
  have hn15 := accB_le hd
  have e0 : clOk n R z = true := by unfold clOk; rw [hd, hz]; rfl
  have e1 : clL n R z = outC R z n n := by unfold clL; rw [e0]; rfl
  rw [e0, e1]; clear e0 e1
  obtain ⟨z1, z2⟩ := within_iff.1 hz
  have HAB := Lib.hid (fun k (hk : k < n) => (accB_bd hd hk).1)
  go_enter Tryz.func35, Tryz.ntmps35
  go_wp2_with fail
  rw [← HW0.out]
  refine (C_l22Good _ _ _ _ HH.out HS.out).mono ?_; rintro e w1 ⟨rfl, hb1⟩; rw [hd]
  go_wp2_with fail
  refine (C_l1In _ _ _ _).mono ?_; rintro e w2 ⟨rfl, rfl⟩; rw [hz]
  have HB1 := Lib.hid (bel_step0 hb1 hb0)
  have HO1 := Lib.hid (fun L => (HO0.out L).below hb1)
  clear hb1 hb0 hd hz
  go_wp2_with fail
  go_loopw [6, 7, 8] (fun o i _ wr => ∃ k : Nat, k ≤ n ∧ i = .int .i64 k ∧ OSS w.heap.size wr o (outC R z n k).length (at_ (outC R z n k)) ∧ Below w.heap.size w wr) (fun _ i _ _ => n - (intOf i).toNat)
  case atStart => exact ⟨0, Nat.zero_le _, rfl, HO1.out _, HB1.out⟩
  case round =>
    obtain ⟨k, hk, rfl, ho, hB⟩ := hrel
    have HO := Lib.hid ho; clear ho
    obtain ⟨wo, rfl⟩ : ∃ wo : World, wo = wr := ⟨_, rfl⟩
    have HBB := Lib.hid hB
    by_cases hlt : k < n
    · clear hB
      have hki : (k : Int) < (n : Int) := by omega
      go_wp2
      go_loopw [6, 8] (fun o i wr => ∃ m : Nat, k + 1 + m ≤ n ∧ i = .int .i64 ((k + 1 + m : Nat) : Int) ∧ OSS w.heap.size wr o (outC R z n k ++ inC R z k m).length (at_ (outC R z n k ++ inC R z k m)) ∧ Below w.heap.size w wr) (fun _ i _ => n - (intOf i).toNat)
      case atStart => exact ⟨0, by omega, by go_num, by simpa [inC] using HO.out, HBB.out⟩
      case round =>
        clear HO HBB
        obtain ⟨m, hm2, rfl, ho, hB⟩ := hrel
        have HO2 := Lib.hid ho
        have HB2 := Lib.hid hB
        have hbs := hB.size
        by_cases hml : k + 1 + m < n
        · obtain ⟨b, off, rfl, hb, hcell⟩ := (HR.out.below hB) (by omega)
          obtain ⟨c0, c1, c2, c3, c4⟩ := hcell k hlt
          obtain ⟨d0, d1, d2, d3, d4⟩ := hcell (k + 1 + m) hml
          obtain ⟨t1, t2⟩ := HAB.out k hlt
          obtain ⟨t3, t4⟩ := HAB.out (k + 1 + m) hml
          have hmi : (k : Int) + 1 + (m : Int) < (n : Int) := by omega
          clear hcell ho hB
          go_upto_region 10 with fail
          go_cut [9, 10] (fun s9 s10 wx => TwoAt wr (R k) (R (k + 1 + m)) s9 s10 wx)
          case first =>
            go_region
            all_goals
              go_wp2
              go_meet
              first | exact two_a _ _ _ _ | exact two_b _ _ _ _ | exact (two_a _ _ _ _).drew | exact (two_b _ _ _ _).drew | exact (two_a _ _ _ _).drew.drew | exact (two_b _ _ _ _).drew.drew
          case rest =>
            rename World => wx
            obtain ⟨g1, g2, rfl, rfl, l1, l2, a1, a2, hb2⟩ := hcut
            replace HO2 := Lib.hid (HO2.out.below hb2)
            replace HB2 := Lib.hid (bel_step0 hb2 HB2.out)
            have hbs2 := HB2.out.size
            obtain ⟨c0, c1, c2, c3, c4⟩ := a1
            obtain ⟨d0, d1, d2, d3, d4⟩ := a2
            simp only [Nat.zero_add] at c1 c2 c3 c4 d1 d2 d3 d4
            have hlen : (outC R z n k ++ inC R z k m).length ≤ 1048576 := by
              have h1 := inC_le R z k m
              have h2 := outC_le R z n k
              have h3 := Nat.mul_le_mul (show k ≤ 15 by omega) hn15
              rw [List.length_append]; omega
            clear hb2 c4 d4
            cases q1 : ((R k).rid == (R (k + 1 + m)).rid)
            · have HCR := Lib.hid (show crB (R k) (R (k + 1 + m)) z = false by simp [crB, acB, q1])
              (go_wp2; go_roundw; (case rel => exact ⟨m + 1, by omega, by go_num, by rw [inC_no HCR.out]; exact HO2.out, HB2.out⟩); (case measure => simp [intOf]; omega))
            cases q2 : ((R k).who != (R (k + 1 + m)).who)
            · have HCR := Lib.hid (show crB (R k) (R (k + 1 + m)) z = false by simp [crB, acB, q2])
              (go_wp2; go_roundw; (case rel => exact ⟨m + 1, by omega, by go_num, by rw [inC_no HCR.out]; exact HO2.out, HB2.out⟩); (case measure => simp [intOf]; omega))
            cases q3 : ((R k).kind == 2)
            · cases q4 : ((R (k + 1 + m)).kind == 2)
              · have HCR := Lib.hid (show crB (R k) (R (k + 1 + m)) z = false by simp [crB, acB, q3, q4])
                (go_wp2; go_roundw; (case rel => exact ⟨m + 1, by omega, by go_num, by rw [inC_no HCR.out]; exact HO2.out, HB2.out⟩); (case measure => simp [intOf]; omega))
              by_cases q5 : (R (k + 1 + m)).tick - (R k).tick ≤ z
              · have HCR := Lib.hid (show crB (R k) (R (k + 1 + m)) z = true by simp [crB, acB, q1, q2, q3, q4, q5])
                (go_wp2_with (at_builtin; refine wp_appRow wx rfl (.tmp 74) (.tmp 78) rfl w.heap.size _ _ _ _ _ rfl HO2.out rfl hlen hbs2 ?_; intro v4 w4 ho4 hb4 hk4 hv4; have HO4 := Lib.hid (ho4.congr (snoc_at _ _)); have HB4 := Lib.hid (((HB2.out.alloc (by simpa using hbs2) _).alloc (by simp; omega) _).trans hb4); clear ho4 hb4 hk4 hv4); go_roundw; (case rel => exact ⟨m + 1, by omega, by go_num, by (have e : outC R z n k ++ inC R z k (m + 1) = (outC R z n k ++ inC R z k m) ++ [[(k : Int), ((k + 1 + m : Nat) : Int)]] := (by rw [inC_yes HCR.out, List.append_assoc]); rw [e, List.length_append]; exact HO4.out), HB4.out⟩); (case measure => simp [intOf]; omega))
              · have HCR := Lib.hid (show crB (R k) (R (k + 1 + m)) z = false by simp [crB, q5])
                (go_wp2; go_roundw; (case rel => exact ⟨m + 1, by omega, by go_num, by rw [inC_no HCR.out]; exact HO2.out, HB2.out⟩); (case measure => simp [intOf]; omega))
            · by_cases q5 : (R (k + 1 + m)).tick - (R k).tick ≤ z
              · have HCR := Lib.hid (show crB (R k) (R (k + 1 + m)) z = true by simp [crB, acB, q1, q2, q3, q5])
                (go_wp2_with (at_builtin; refine wp_appRow wx rfl (.tmp 74) (.tmp 78) rfl w.heap.size _ _ _ _ _ rfl HO2.out rfl hlen hbs2 ?_; intro v4 w4 ho4 hb4 hk4 hv4; have HO4 := Lib.hid (ho4.congr (snoc_at _ _)); have HB4 := Lib.hid (((HB2.out.alloc (by simpa using hbs2) _).alloc (by simp; omega) _).trans hb4); clear ho4 hb4 hk4 hv4); go_roundw; (case rel => exact ⟨m + 1, by omega, by go_num, by (have e : outC R z n k ++ inC R z k (m + 1) = (outC R z n k ++ inC R z k m) ++ [[(k : Int), ((k + 1 + m : Nat) : Int)]] := (by rw [inC_yes HCR.out, List.append_assoc]); rw [e, List.length_append]; exact HO4.out), HB4.out⟩); (case measure => simp [intOf]; omega))
              · have HCR := Lib.hid (show crB (R k) (R (k + 1 + m)) z = false by simp [crB, q5])
                (go_wp2; go_roundw; (case rel => exact ⟨m + 1, by omega, by go_num, by rw [inC_no HCR.out]; exact HO2.out, HB2.out⟩); (case measure => simp [intOf]; omega))
        · obtain rfl : n = k + 1 + m := by omega
          go_wp2
          go_roundw
          case rel => exact ⟨k + 1, by omega, by go_num, by have e : outC R z (k + 1 + m) (k + 1) = outC R z (k + 1 + m) k ++ inC R z k m := (by show outC R z (k + 1 + m) k ++ inC R z k (k + 1 + m - (k + 1)) = _; rw [show k + 1 + m - (k + 1) = m by omega]); rw [e]; exact HO2.out, HB2.out⟩
          case measure => simp [intOf]; omega
    · obtain rfl : k = n := by omega
      go_wp2
      go_ret2
      exact ⟨_, rfl, HO.out, HBB.out⟩
end Go.Proofs.YtmhelhjjadoiaaaGreatDoor
