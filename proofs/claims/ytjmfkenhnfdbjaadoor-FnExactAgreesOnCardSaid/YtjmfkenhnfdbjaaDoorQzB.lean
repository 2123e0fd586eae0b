/- Lists of records of the laws: copies, comparisons, marks. No condition but those stated. -/
import Derived.Test.YtjmfkenhnfdbjaaDoorQyZ
import Derived.Test.YtjmfkenhnfdbjaaDoorIntsE
namespace Go.Proofs.YtjmfkenhnfdbjaaDoor
set_option linter.unusedVariables false
set_option linter.unusedSimpArgs false
open Go.RowKit Go.Sort
def c4 (x : Rc) (sv : Value) (m : Nat) : Value := if m = 0 then .int .i64 x.id else if m = 1 then .int .i64 x.ser else if m = 2 then .int .i64 x.made else sv
def z4 (m : Nat) : Value := if m = 0 then .int .i64 0 else if m = 1 then .int .i64 0 else if m = 2 then .int .i64 0 else .slice none 0 0
def erow (R : Nat → Rc) (G : Nat → Nat) (j : Nat) : Value := .slice (some ⟨G j, 0, none⟩) (R j).n (R j).n
def ERow (w : World) (g : Nat) (R : Rc) : Prop := w.rowIs g 90 (R.n * 2) (fun i => cE R (i / 2) (i % 2))
/-- The value v is a new slice of the records R; the events of each lie in a row of their own. -/
def FRc (lo hi : Nat) (w : World) (v : Value) (n : Nat) (R : Nat → Rc) : Prop :=
  ∃ (g : Nat) (G : Nat → Nat), v = .slice (some ⟨g, 0, none⟩) n n ∧ lo ≤ g ∧ g < hi ∧ n ≤ 1048576 ∧ w.rowIs g 33 (n * 4) (fun i => c4 (R (i / 4)) (erow R G (i / 4)) (i % 4)) ∧
    (∀ j, j < n → g < G j ∧ G j < hi ∧ (R j).n ≤ 1048576 ∧ ERow w (G j) (R j)) ∧ ∀ i j, i < j → j < n → G i < G j
theorem FRc.rcs {lo hi : Nat} {w : World} {v : Value} {n : Nat} {R : Nat → Rc} (h : FRc lo hi w v n R) : RcS w v n R := by
  obtain ⟨g, G, rfl, _, _, hn, hr, hs, _⟩ := h
  refine ⟨_, _, rfl, fun h0 => ⟨g, 0, rfl, hr.lt, fun j hj => ⟨erow R G j, ?_, ?_, ?_, ?_, ?_⟩⟩, Nat.le_refl _, by omega⟩
  · exact FE.evs (lo := 0) (hi := G j + 1) ⟨G j, rfl, by omega, by omega, (hs j hj).2.2.1, (hs j hj).2.2.2⟩
  · have := hr.cell (i := j * 4) (by omega)
    rw [show (j * 4) / 4 = j by omega, show (j * 4) % 4 = 0 by omega] at this
    rw [Nat.zero_add]; exact this
  · have := hr.cell (i := j * 4 + 1) (by omega)
    rw [show (j * 4 + 1) / 4 = j by omega, show (j * 4 + 1) % 4 = 1 by omega] at this
    rw [Nat.zero_add]; exact this
  · have := hr.cell (i := j * 4 + 2) (by omega)
    rw [show (j * 4 + 2) / 4 = j by omega, show (j * 4 + 2) % 4 = 2 by omega] at this
    rw [Nat.zero_add]; exact this
  · have := hr.cell (i := j * 4 + 3) (by omega)
    rw [show (j * 4 + 3) / 4 = j by omega, show (j * 4 + 3) % 4 = 3 by omega] at this
    rw [Nat.zero_add]; exact this
theorem FRc.below {lo hi : Nat} {w w' : World} {v : Value} {n : Nat} {R : Nat → Rc} (hb : Below w.heap.size w w') (h : FRc lo hi w v n R) : FRc lo hi w' v n R := by
  obtain ⟨g, G, rfl, h1, h2, hn, hr, hs, hi⟩ := h
  exact ⟨g, G, rfl, h1, h2, hn, hr.of_block (hb.block g hr.lt), fun j hj => ⟨(hs j hj).1, (hs j hj).2.1, (hs j hj).2.2.1, (hs j hj).2.2.2.of_block (hb.block _ (hs j hj).2.2.2.lt)⟩, hi⟩
theorem info_rec : (Tryd.prog.info? 33).map (fun i => (i.zero, i.size, i.bytes)) = some (some (.agg #[.int .i64 0, .int .i64 0, .int .i64 0, .slice none 0 0]), 4, 48) := by kernel_rfl
theorem row4_made (w : World) (t : TypeId) (n : Nat) : (w.alloc (.cells (madeCells #[.int .i64 0, .int .i64 0, .int .i64 0, .slice none 0 0] (n * 4)) t)).rowIs w.heap.size t (n * 4) (fun i => z4 (i % 4)) := by
  have h := World.rowIs_alloc w (madeCells #[.int .i64 0, .int .i64 0, .int .i64 0, .slice none 0 0] (n * 4)) t (fun i => z4 (i % 4)) (fun i hi => by
    rw [size_madeCells] at hi
    have hm : i % 4 < 4 := Nat.mod_lt _ (by omega)
    simp only [madeCells, Array.getElem?_map, Array.getElem?_range, hi, if_true, Option.map_some]
    congr 1
    show (#[Value.int .i64 0, Value.int .i64 0, Value.int .i64 0, Value.slice none 0 0] : Array Value)[i % 4]! = z4 (i % 4)
    generalize i % 4 = m at *
    match m, hm with
    | 0, _ => rfl
    | 1, _ => rfl
    | 2, _ => rfl
    | 3, _ => rfl)
  rwa [size_madeCells] at h
theorem row4_step (R : Nat → Rc) (S : Nat → Value) (sv : Value) (k i : Nat) :
    (if i = k * 4 + 3 then sv else if i = k * 4 + 2 then .int .i64 (R k).made else if i = k * 4 + 1 then .int .i64 (R k).ser else if i = k * 4 then .int .i64 (R k).id else if i < k * 4 then c4 (R (i / 4)) (S (i / 4)) (i % 4) else z4 (i % 4)) =
    if i < (k + 1) * 4 then c4 (R (i / 4)) (if i / 4 = k then sv else S (i / 4)) (i % 4) else z4 (i % 4) := by
  by_cases h3 : i = k * 4 + 3
  · subst h3
    rw [if_pos rfl, if_pos (by omega), show (k * 4 + 3) / 4 = k by omega, show (k * 4 + 3) % 4 = 3 by omega, if_pos rfl]; rfl
  rw [if_neg h3]
  by_cases h2 : i = k * 4 + 2
  · subst h2
    rw [if_pos rfl, if_pos (by omega), show (k * 4 + 2) / 4 = k by omega, show (k * 4 + 2) % 4 = 2 by omega]; rfl
  rw [if_neg h2]
  by_cases h1 : i = k * 4 + 1
  · subst h1
    rw [if_pos rfl, if_pos (by omega), show (k * 4 + 1) / 4 = k by omega, show (k * 4 + 1) % 4 = 1 by omega]; rfl
  rw [if_neg h1]
  by_cases h0 : i = k * 4
  · subst h0
    rw [if_pos rfl, if_pos (by omega), show (k * 4) / 4 = k by omega, show (k * 4) % 4 = 0 by omega]; rfl
  rw [if_neg h0]
  by_cases hl : i < k * 4
  · rw [if_pos hl, if_pos (by omega), if_neg (by omega)]
  · rw [if_neg hl, if_neg (by omega)]
set_option maxHeartbeats 2000000 in
theorem C_toRecordS (v : Value) (n : Nat) (R : Nat → Rc) (w : World) (h : RcS w v n R) (hn : n ≤ 1048576) (hj : ∀ j, j < n → (R j).n ≤ 1048576) :
    Calls Tryd.prog 17 #[v] w fun e w' => ∃ v', e = .returned v' ∧ FRc w.heap.size w'.heap.size w' v' n R ∧ Below w.heap.size w w' := by
  obtain ⟨A, cap, rfl, hr, hc, hm⟩ := h
  have HR := Lib.hid hr; clear hr
  have HJ := Lib.hid hj; clear hj
  have hmk := make_rowK (P := Tryd.prog) 40 33 _ 4 48 Tryd.underlying40 info_rec n (by omega) (by omega)
  go_enter Tryd.func17, Tryd.ntmps17
  go_wp2
  go_loopw [4] (fun i wr => ∃ (k : Nat) (G : Nat → Nat), k ≤ n ∧ i = .int .i64 k ∧ wr.rowIs w.heap.size 33 (n * 4) (fun i => if i < k * 4 then c4 (R (i / 4)) (erow R G (i / 4)) (i % 4) else z4 (i % 4)) ∧
    (∀ j, j < k → w.heap.size < G j ∧ G j < wr.heap.size ∧ ERow wr (G j) (R j)) ∧ (∀ i j, i < j → j < k → G i < G j) ∧ Below w.heap.size w wr) (fun i _ => n - (intOf i).toNat)
  case atStart => exact ⟨0, fun _ => 0, Nat.zero_le _, rfl, (row4_made w _ n).congr (fun i hi => by simp), fun j hj => absurd hj (by omega), fun i j _ hj => absurd hj (by omega), by (repeat (first | with_reducible exact Below.refl _ _ | with_reducible exact below_regrown _ _ _ | with_reducible refine bel_step0 (by assumption) ?_ | with_reducible refine bel_alloc0 ?_ _ | with_reducible refine bel_regrown0 ?_ _ _ | with_reducible refine bel_regrown ?_ (by first | omega | (simp; done) | (simp; omega)) _ _ | with_reducible refine below_drewN ?_ _ | with_reducible refine Below.drew ?_ | with_reducible refine Below.alloc ?_ (by first | omega | (simp; done) | (simp; omega)) _ | with_reducible refine Below.setCell ?_ (by first | omega | (simp; done) | (simp; omega)) _ | with_reducible refine bel_step (by assumption) (by first | omega | (simp; done) | (simp; omega)) ?_ | with_reducible refine bel_grown (by assumption) (by first | omega | (simp; done) | (simp; omega)) (by first | omega | (simp; done) | (simp; omega)) ?_))⟩
  case round =>
    obtain ⟨k, G, hk, rfl, ha, hf, hG, hB⟩ := hrel; have hzB := hB.size
    have HA := Lib.hid ha
    have HF := Lib.hid hf; clear hf
    have HGG := Lib.hid hG; clear hG
    by_cases hlt : k < n
    · obtain ⟨b, off, rfl, hb, hcell⟩ := (HR.out.below hB) (by omega)
      obtain ⟨sv, hsv, hck0, hck1, hck2, hck3⟩ := hcell k hlt
      have hgl := ha.lt
      have ho0 := ha.cell (i := k * 4) (by omega)
      have ho1 := ha.cell (i := k * 4 + 1) (by omega)
      have ho2 := ha.cell (i := k * 4 + 2) (by omega)
      have ho3 := ha.cell (i := k * 4 + 3) (by omega)
      have hfr0 := ha.frozen (k * 4)
      have hfr1 := ha.frozen (k * 4 + 1)
      have hfr2 := ha.frozen (k * 4 + 2)
      have hfr3 := ha.frozen (k * 4 + 3)
      clear hcell ha
      go_wp2_with (go_at_call 12; refine (C_toRecord (R k) sv _ hsv (HJ.out k hlt)).mono ?_; rintro e w' ⟨v', rfl, hfi, hb'⟩; obtain ⟨hc', hf'⟩ := bcell hb'; obtain ⟨g, rfl, hfi1, hfi2, _, hfi3⟩ := hfi; have HFI := Lib.hid hfi3; clear hfi3)
      go_roundw
      case rel =>
        have hgw : g < w'.heap.size := HFI.out.lt
        have hbs := hb'.size
        have hgne : g ≠ w.heap.size := by omega
        refine ⟨k + 1, fun j => if j = k then g else G j, by omega, by go_num, ?_, fun j hj => ?_, fun i j hij hj => ?_, by (repeat (first | with_reducible exact Below.refl _ _ | with_reducible exact below_regrown _ _ _ | with_reducible refine bel_step0 (by assumption) ?_ | with_reducible refine bel_alloc0 ?_ _ | with_reducible refine bel_regrown0 ?_ _ _ | with_reducible refine bel_regrown ?_ (by first | omega | (simp; done) | (simp; omega)) _ _ | with_reducible refine below_drewN ?_ _ | with_reducible refine Below.drew ?_ | with_reducible refine Below.alloc ?_ (by first | omega | (simp; done) | (simp; omega)) _ | with_reducible refine Below.setCell ?_ (by first | omega | (simp; done) | (simp; omega)) _ | with_reducible refine bel_step (by assumption) (by first | omega | (simp; done) | (simp; omega)) ?_ | with_reducible refine bel_grown (by assumption) (by first | omega | (simp; done) | (simp; omega)) (by first | omega | (simp; done) | (simp; omega)) ?_))⟩
        · have h3 := ((((HA.out.of_block (hb'.block _ hgl)).set (k * 4) (.int .i64 (R k).id)).set (k * 4 + 1) (.int .i64 (R k).ser)).set (k * 4 + 2) (.int .i64 (R k).made)).set (k * 4 + 3) (.slice (some ⟨g, 0, none⟩) (R k).n (R k).n)
          refine h3.congr fun i hi => ?_
          rw [row4_step R (erow R G) _ k i]
          by_cases e : i < (k + 1) * 4
          · rw [if_pos e, if_pos e]
            congr 1
            unfold erow
            by_cases e2 : i / 4 = k
            · simp only [e2, if_true]
            · simp only [if_neg e2]
          · rw [if_neg e, if_neg e]
        · by_cases e : j = k
          · subst e
            simp only [if_true]
            refine ⟨by omega, by simpa using hgw, ?_⟩
            exact (((HFI.out.setOther (by exact hgne) _).setOther (by exact hgne) _).setOther (by exact hgne) _).setOther (by exact hgne) _
          · simp only [if_neg e]
            obtain ⟨f1, f2, f3⟩ := HF.out j (by omega)
            refine ⟨f1, by simp; omega, ?_⟩
            have hne : G j ≠ w.heap.size := by omega
            exact ((((f3.of_block (hb'.block _ f2)).setOther (by exact hne) _).setOther (by exact hne) _).setOther (by exact hne) _).setOther (by exact hne) _
        · by_cases e : j = k
          · subst e
            simp only [if_true, if_neg (show ¬ i = j by omega)]
            have := (HF.out i hij).2.1
            omega
          · simp only [if_neg e, if_neg (show ¬ i = k by omega)]
            exact HGG.out i j hij (by omega)
      case measure => simp [intOf]; omega
    · clear ha
      go_wp2
      go_ret
      obtain rfl : k = n := by omega
      exact ⟨_, rfl, ⟨_, G, rfl, Nat.le_refl _, HA.out.lt, hn, HA.out.congr (fun i hi => by rw [if_pos hi]), fun j hj => ⟨(HF.out j hj).1, (HF.out j hj).2.1, HJ.out j hj, (HF.out j hj).2.2⟩, HGG.out⟩, hB⟩
set_option maxHeartbeats 2000000 in
theorem C_eqRecordS (v v' : Value) (n : Nat) (R : Nat → Rc) (w : World) (h : RcS w v n R) (h' : RcS w v' n R) :
    Calls Tryd.prog 19 #[v, v'] w fun e w' => e = .returned (.bool true) ∧ Below w.heap.size w w' := by
  obtain ⟨A, cap, rfl, hr, hc, hm⟩ := h
  obtain ⟨A', cap', rfl, hr', hc', hm'⟩ := h'
  have HR := Lib.hid hr; clear hr
  have HR' := Lib.hid hr'; clear hr'
  go_enter Tryd.func19, Tryd.ntmps19
  go_wp2
  go_loopw [5] (fun i wr => ∃ k : Nat, k ≤ n ∧ i = .int .i64 k ∧ Below w.heap.size w wr) (fun i _ => n - (intOf i).toNat)
  case atStart => exact ⟨0, Nat.zero_le _, rfl, Below.refl _ _⟩
  case round =>
    obtain ⟨k, hk, rfl, hB⟩ := hrel; have hzB := hB.size
    by_cases hlt : k < n
    · obtain ⟨b, off, rfl, hb, hcell⟩ := (HR.out.below hB) (by omega)
      obtain ⟨b', off', rfl, hb', hcell'⟩ := (HR'.out.below hB) (by omega)
      obtain ⟨sv, hsv, c0, c1, c2, c3⟩ := hcell k hlt
      obtain ⟨sv', hsv', d0, d1, d2, d3⟩ := hcell' k hlt
      have hk0 : (0 : Int) ≤ (k : Int) := by omega
      have hk1 : (k : Int) < (n : Int) := by omega
      have g0 := cell_regrown c0; have g1 := cell_regrown c1; have g2 := cell_regrown c2; have g3 := cell_regrown c3
      have i0 := cell_regrown d0; have i1 := cell_regrown d1; have i2 := cell_regrown d2; have i3 := cell_regrown d3
      have HE : ∀ d os, Calls Tryd.prog 14 #[.agg #[.int .i64 (R k).id, .int .i64 (R k).ser, .int .i64 (R k).made, sv], .agg #[.int .i64 (R k).id, .int .i64 (R k).ser, .int .i64 (R k).made, sv']] (grow (redrawn wr d) os) fun e w'' => e = .returned (.bool true) ∧ ∃ p : Regrown, w'' = grow (redrawn wr p.d) p.os :=
        fun d os => Calls.regrown_of (C_eqRecord (R k) sv sv' _ (hsv.below (below_regrown _ _ _)) (hsv'.below (below_regrown _ _ _)))
      clear hcell hcell' c0 c1 c2 c3 d0 d1 d2 d3 hsv hsv'
      go_wp2
      (refine wp_region_quiet_below (by kernel_rfl) (by kernel_rfl) ?_; (repeat (go_big_quiet_step (exact HE _ _))); refine wpQuiet_nil ?_; intro _ hw'; obtain ⟨⟨dq, osq⟩, hw''⟩ := hw'; subst hw'')
      go_wp2
      go_roundw
      case rel => exact ⟨k + 1, by omega, by go_num, by (repeat (first | with_reducible exact Below.refl _ _ | with_reducible exact below_regrown _ _ _ | with_reducible refine bel_step0 (by assumption) ?_ | with_reducible refine bel_alloc0 ?_ _ | with_reducible refine bel_regrown0 ?_ _ _ | with_reducible refine bel_regrown ?_ (by first | omega | (simp; done) | (simp; omega)) _ _ | with_reducible refine below_drewN ?_ _ | with_reducible refine Below.drew ?_ | with_reducible refine Below.alloc ?_ (by first | omega | (simp; done) | (simp; omega)) _ | with_reducible refine Below.setCell ?_ (by first | omega | (simp; done) | (simp; omega)) _ | with_reducible refine bel_step (by assumption) (by first | omega | (simp; done) | (simp; omega)) ?_ | with_reducible refine bel_grown (by assumption) (by first | omega | (simp; done) | (simp; omega)) (by first | omega | (simp; done) | (simp; omega)) ?_))⟩
      case measure => simp [intOf]; omega
    · go_wp2
      go_ret
      exact ⟨rfl, hB⟩
set_option maxHeartbeats 1000000 in
theorem C_markEventS (g n : Nat) (F : Nat → Value) (k0 : Int) (w : World) (h : w.rowIs g 90 (n * 2) F) (hn : n ≤ 1048576) (h0 : 0 ≤ k0) (h1 : k0 ≤ 4611686018000000000) :
    Calls Tryd.prog 45 #[.slice (some ⟨g, 0, none⟩) n n, .int .i64 k0] w fun e w' => e = .returned (.int .i64 (k0 + 2 * n)) ∧ Chg g (g + 1) w w' := by
  have H0 := Lib.hid h; clear h
  go_enter Tryd.func45, Tryd.ntmps45
  go_wp2
  go_loopw [1, 5] (fun q i wr => ∃ (k : Nat) (F : Nat → Value), k ≤ n ∧ i = .int .i64 k ∧ q = .int .i64 (k0 + 2 * k) ∧ Chg g (g + 1) w wr ∧ wr.rowIs g 90 (n * 2) F) (fun _ i _ => n - (intOf i).toNat)
  case atStart => exact ⟨0, F, Nat.zero_le _, rfl, by simp, Chg.refl _ _ _, H0.out⟩
  case round =>
    obtain ⟨k, F, hk, rfl, rfl, hC, hrow⟩ := hrel
    have HC := Lib.hid hC; clear hC
    have HROW := Lib.hid hrow
    by_cases hlt : k < n
    · have hc0 := hrow.cell (i := k * 2) (by omega)
      have hc1 := hrow.cell (i := k * 2 + 1) (by omega)
      have hf0 := hrow.frozen (k * 2)
      have hf1 := hrow.frozen (k * 2 + 1)
      have hk0 : (0 : Int) ≤ (k : Int) := by omega
      have hk1 : (k : Int) < (n : Int) := by omega
      clear hrow
      go_wp2
      go_roundw
      case rel => exact ⟨k + 1, _, by omega, by go_num, by go_num, (HC.out.setCell (p := ⟨g, k * 2, none⟩) (Nat.le_refl _) (Nat.lt_succ_self g) _).setCell (p := ⟨g, k * 2 + 1, none⟩) (Nat.le_refl _) (Nat.lt_succ_self g) _, (HROW.out.set (k * 2) _).set (k * 2 + 1) _⟩
      case measure => simp [intOf]; omega
    · go_wp2
      go_ret
      obtain rfl : k = n := by omega
      exact ⟨rfl, HC.out⟩
set_option maxHeartbeats 2000000 in
theorem C_markRecordS (v : Value) (n : Nat) (R : Nat → Rc) (lo hi : Nat) (w : World) (h : FRc lo hi w v n R) :
    Calls Tryd.prog 23 #[v, .int .i64 1] w fun e w' => ∃ k : Int, e = .returned (.int .i64 k) ∧ 0 ≤ k ∧ Chg lo hi w w' := by
  obtain ⟨g, G, rfl, hg1, hg2, hn, hr, hs, hinc⟩ := h
  have HR := Lib.hid hr; clear hr
  have HS := Lib.hid hs; clear hs
  have HI := Lib.hid hinc; clear hinc
  go_enter Tryd.func23, Tryd.ntmps23
  go_wp2
  go_loopw [1, 5] (fun q i wr => ∃ (k : Nat) (m : Int) (F : Nat → Value), k ≤ n ∧ i = .int .i64 k ∧ q = .int .i64 m ∧ 0 ≤ m ∧ m ≤ 1 + k * 2097155 ∧ Chg lo hi w wr ∧ wr.rowIs g 33 (n * 4) F ∧
    (∀ j, k ≤ j → j < n → F (j * 4 + 3) = erow R G j) ∧ ∀ j, k ≤ j → j < n → ERow wr (G j) (R j)) (fun _ i _ => n - (intOf i).toNat)
  case atStart => exact ⟨0, 1, _, Nat.zero_le _, rfl, rfl, by omega, by omega, Chg.refl _ _ _, HR.out, fun j _ hj => by show c4 _ _ _ = _; rw [show (j * 4 + 3) / 4 = j by omega, show (j * 4 + 3) % 4 = 3 by omega]; rfl, fun j _ hj => (HS.out j hj).2.2.2⟩
  case round =>
    obtain ⟨k, m, F, hk, rfl, rfl, hm0, hm1, hC, hrow, hF, hG⟩ := hrel
    have HC := Lib.hid hC; clear hC
    have HROW := Lib.hid hrow
    have HF := Lib.hid hF; clear hF
    have HG := Lib.hid hG; clear hG
    by_cases hlt : k < n
    · have hc0 := hrow.cell (i := k * 4) (by omega)
      have hc1 := hrow.cell (i := k * 4 + 1) (by omega)
      have hc2 := hrow.cell (i := k * 4 + 2) (by omega)
      have hc3 := hrow.cell (i := k * 4 + 3) (by omega)
      rw [HF.out k (Nat.le_refl _) hlt] at hc3
      unfold erow at hc3
      have hf0 := hrow.frozen (k * 4)
      have hf1 := hrow.frozen (k * 4 + 1)
      have hf2 := hrow.frozen (k * 4 + 2)
      have hgl := hrow.lt
      clear hrow
      obtain ⟨hgg, hgh, hsm, _⟩ := HS.out k hlt
      have hm2 : m ≤ 2199100000000 := by omega
      have hk0 : (0 : Int) ≤ (k : Int) := by omega
      have hk1 : (k : Int) < (n : Int) := by omega
      have hne : G k ≠ g := by omega
      have hrk := (((HG.out k (Nat.le_refl _) hlt).setOther (a := ⟨g, k * 4, none⟩) hne (.int .i64 m)).setOther (a := ⟨g, k * 4 + 1, none⟩) hne (.int .i64 (m + 1))).setOther (a := ⟨g, k * 4 + 2, none⟩) hne (.int .i64 (m + 1 + 1))
      have HRK := Lib.hid hrk
      clear hrk
      go_wp2_with fail
      refine (C_markEventS (G k) (R k).n _ _ _ HRK.out hsm (by omega) (by omega)).mono ?_
      rintro e w' ⟨rfl, hch⟩
      have HCH := Lib.hid hch
      clear hch
      go_wp2
      go_roundw
      case rel =>
        have hch := HCH.out
        have hsz := hch.size
        simp only [World.size_setCell] at hsz
        refine ⟨k + 1, m + 1 + 1 + 1 + 2 * (R k).n, _, by omega, by go_num, rfl, by omega, by omega, ?_, ((((HROW.out.set (k * 4) _).set (k * 4 + 1) _).set (k * 4 + 2) _).of_block (hch.block g (by simpa using hgl) (.inl hgg))), fun j hj1 hj2 => ?_, fun j hj1 hj2 => ?_⟩
        · exact (((HC.out.setCell (p := ⟨g, k * 4, none⟩) hg1 hg2 _).setCell (p := ⟨g, k * 4 + 1, none⟩) hg1 hg2 _).setCell (p := ⟨g, k * 4 + 2, none⟩) hg1 hg2 _).trans (hch.mono (by omega) (by omega))
        · show (if j * 4 + 3 = k * 4 + 2 then _ else if j * 4 + 3 = k * 4 + 1 then _ else if j * 4 + 3 = k * 4 then _ else F (j * 4 + 3)) = _
          rw [if_neg (by omega), if_neg (by omega), if_neg (by omega)]
          exact HF.out j (by omega) hj2
        · have hj := HG.out j (by omega) hj2
          have hgj := (HS.out j hj2).1
          have hinc := HI.out k j (by omega) hj2
          have hne' : G j ≠ g := by omega
          exact (((hj.setOther (a := ⟨g, k * 4, none⟩) hne' _).setOther (a := ⟨g, k * 4 + 1, none⟩) hne' _).setOther (a := ⟨g, k * 4 + 2, none⟩) hne' _).of_block (hch.block (G j) (by simpa using hj.lt) (.inr hinc))
      case measure => simp [intOf]; omega
    · go_wp2
      go_ret
      exact ⟨m, rfl, hm0, HC.out⟩
end Go.Proofs.YtjmfkenhnfdbjaaDoor
