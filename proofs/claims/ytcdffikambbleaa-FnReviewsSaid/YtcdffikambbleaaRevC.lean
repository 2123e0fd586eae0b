/- What the functions on lists of reviews compute, one contract for each. No condition but those stated. -/
import Derived.Test.YtcdffikambbleaaRevB
import Derived.Test.YtcdffikambbleaaIntsE
namespace Go.Proofs.Ytcdffikambbleaa
set_option linter.unusedVariables false
set_option linter.unusedSimpArgs false
open Go.RowKit Go.Sort

/-- How much of the budget is left. -/
def szR (left : Int) (R : Nat → Rv) : Nat → Int
  | 0 => left
  | k + 1 => if szR left R k < 0 then -1 else szI (szR left R k) (R k).n
def szRs (left : Int) (n : Nat) (R : Nat → Rv) : Int := if left - n < 0 then -1 else szR (left - n) R n
theorem szR_neg {left : Int} {R : Nat → Rv} {k : Nat} (h : szR left R (k + 1) < 0) : ∀ m, k + 1 ≤ m → szR left R m = -1 := by
  intro m hm
  induction m with
  | zero => omega
  | succ m ih =>
    by_cases e : k + 1 ≤ m
    · have := ih e
      simp [szR, this]
    · obtain rfl : k = m := by omega
      simp only [szR] at h ⊢
      split
      · rfl
      · rename_i h2
        rw [if_neg h2] at h
        exact szI_neg h
theorem szR_pos {left : Int} {R : Nat → Rv} {k : Nat} (h : 0 ≤ szR left R (k + 1)) : 0 ≤ szR left R k ∧ szR left R (k + 1) ≤ szR left R k ∧ ((R k).n : Int) ≤ szR left R k := by
  simp only [szR] at h ⊢
  by_cases h2 : szR left R k < 0
  · rw [if_pos h2] at h; omega
  · rw [if_neg h2] at h ⊢
    unfold szI at h ⊢
    split at h
    · omega
    · rename_i h3; rw [if_neg h3]; omega
theorem szR_small {left : Int} {R : Nat → Rv} {k : Nat} (h : 0 ≤ szR left R k) : szR left R k ≤ left ∧ ∀ j, j < k → ((R j).n : Int) ≤ left := by
  induction k with
  | zero => exact ⟨by simp [szR], fun j hj => by omega⟩
  | succ k ih =>
    obtain ⟨h1, h2, h3⟩ := szR_pos h
    obtain ⟨h4, h5⟩ := ih h1
    refine ⟨by omega, fun j hj => ?_⟩
    by_cases e : j = k
    · subst e; omega
    · exact h5 j (by omega)
theorem szRs_small {n : Nat} {R : Nat → Rv} (h : 0 ≤ szRs 1048576 n R) : n ≤ 1048576 ∧ ∀ j, j < n → (R j).n ≤ 1048576 := by
  unfold szRs at h
  split at h
  · omega
  · obtain ⟨h1, h2⟩ := szR_small h
    exact ⟨by omega, fun j hj => by have := h2 j hj; omega⟩

theorem RRs.at_ {w wr : World} {A : Option Addr} {n : Nat} {R : Nat → Rv} (hB : Below w.heap.size w wr) (h : 0 < n → ∃ b off, A = some ⟨b, off, none⟩ ∧ b < w.heap.size ∧ ∀ j, j < n → ∃ sv, SI w sv (R j).n (R j).f ∧
    w.cell? ⟨b, off + j * 3, none⟩ = some (.int .i64 (R j).rid) ∧ w.cell? ⟨b, off + j * 3 + 1, none⟩ = some (.int .i64 (R j).due) ∧ w.cell? ⟨b, off + j * 3 + 2, none⟩ = some sv) (h0 : 0 < n) :
    ∃ b off, A = some ⟨b, off, none⟩ ∧ b < wr.heap.size ∧ ∀ j, j < n → ∃ sv, SI wr sv (R j).n (R j).f ∧
    wr.cell? ⟨b, off + j * 3, none⟩ = some (.int .i64 (R j).rid) ∧ wr.cell? ⟨b, off + j * 3 + 1, none⟩ = some (.int .i64 (R j).due) ∧ wr.cell? ⟨b, off + j * 3 + 2, none⟩ = some sv := by
  obtain ⟨b, off, ea, hl, hc⟩ := h h0
  refine ⟨b, off, ea, Nat.lt_of_lt_of_le hl hB.size, fun j hj => ?_⟩
  obtain ⟨sv, hs, h0, h1, h2⟩ := hc j hj
  exact ⟨sv, hs.below hB, (hB.cell (p := ⟨b, off + j * 3, none⟩) hl).trans h0, (hB.cell (p := ⟨b, off + j * 3 + 1, none⟩) hl).trans h1, (hB.cell (p := ⟨b, off + j * 3 + 2, none⟩) hl).trans h2⟩

theorem C_szReviewS (v : Value) (n : Nat) (R : Nat → Rv) (left : Int) (w : World) (h : RRs w v n R) (h0 : 0 ≤ left) (h1 : left ≤ 1048576) :
    Calls Try.prog 21 #[v, .int .i64 left] w fun e w' => e = .returned (.int .i64 (szRs left n R)) ∧ Below w.heap.size w w' := by
  obtain ⟨A, cap, rfl, hr, hc, hm⟩ := h
  have HR := Lib.hid hr; clear hr
  by_cases hlt0 : left - n < 0
  · go_enter Try.func21, Try.ntmps21
    go_wp2
    go_ret
    exact ⟨ret_int (by unfold szRs; rw [if_pos hlt0]), Below.refl _ _⟩
  have hge0 : 0 ≤ left - n := by omega
  clear hlt0
  go_enter Try.func21, Try.ntmps21
  go_wp2
  go_loopw [1, 5] (fun l i wr => ∃ k : Nat, k ≤ n ∧ i = .int .i64 k ∧ l = .int .i64 (szR (left - n) R k) ∧ 0 ≤ szR (left - n) R k ∧ Below w.heap.size w wr) (fun _ i _ => n - (intOf i).toNat)
  case atStart => exact ⟨0, Nat.zero_le _, rfl, rfl, by simpa [szR] using hge0, Below.refl _ _⟩
  case round =>
    obtain ⟨k, hk, rfl, rfl, hl0, hB⟩ := hrel; have hzB := hB.size
    by_cases hlt : k < n
    · obtain ⟨b, off, rfl, hb, hcell⟩ := RRs.at_ hB HR.out (by omega)
      obtain ⟨sv, hsv, hck0, hck1, hck2⟩ := hcell k hlt; have hsv0 := hsv; obtain ⟨A1, c1, rfl, hsr1, hsc1, hsm1⟩ := hsv0; clear hsr1
      have hrr : RR wr (.agg #[.int .i64 (R k).rid, .int .i64 (R k).due, .slice A1 (R k).n c1]) (R k) := ⟨_, rfl, hsv⟩
      have hl1 := (szR_small hl0).1
      have HS : Hid (szR (left - n) R (k + 1) = szI (szR (left - n) R k) (R k).n) := by show _ = _; simp only [szR]; rw [if_neg (by omega)]
      have hk0 : (0 : Int) ≤ (k : Int) := by omega
      clear hcell
      go_wp2_with (go_at_call 16; refine (C_szReview _ _ _ _ hrr (by omega) (by omega)).mono ?_; rintro e w' ⟨rfl, hb'⟩)
      all_goals first
        | (go_ret; refine ⟨ret_int ?_, by (repeat (first | with_reducible exact Below.refl _ _ | with_reducible exact below_regrown _ _ _ | with_reducible refine bel_step0 (by assumption) ?_ | with_reducible refine bel_alloc0 ?_ _ | with_reducible refine bel_regrown0 ?_ _ _ | with_reducible refine bel_regrown ?_ (by first | omega | (simp; done) | (simp; omega)) _ _ | with_reducible refine below_drewN ?_ _ | with_reducible refine Below.drew ?_ | with_reducible refine Below.alloc ?_ (by first | omega | (simp; done) | (simp; omega)) _ | with_reducible refine Below.setCell ?_ (by first | omega | (simp; done) | (simp; omega)) _ | with_reducible refine bel_step (by assumption) (by first | omega | (simp; done) | (simp; omega)) ?_ | with_reducible refine bel_grown (by assumption) (by first | omega | (simp; done) | (simp; omega)) (by first | omega | (simp; done) | (simp; omega)) ?_))⟩; unfold szRs; rw [if_neg (by omega), szR_neg (k := k) (by rw [HS.out]; assumption) n (by omega)])
        | (go_roundw; (case rel => exact ⟨k + 1, by omega, by go_num, by rw [HS.out], by rw [HS.out]; assumption, by (repeat (first | with_reducible exact Below.refl _ _ | with_reducible exact below_regrown _ _ _ | with_reducible refine bel_step0 (by assumption) ?_ | with_reducible refine bel_alloc0 ?_ _ | with_reducible refine bel_regrown0 ?_ _ _ | with_reducible refine bel_regrown ?_ (by first | omega | (simp; done) | (simp; omega)) _ _ | with_reducible refine below_drewN ?_ _ | with_reducible refine Below.drew ?_ | with_reducible refine Below.alloc ?_ (by first | omega | (simp; done) | (simp; omega)) _ | with_reducible refine Below.setCell ?_ (by first | omega | (simp; done) | (simp; omega)) _ | with_reducible refine bel_step (by assumption) (by first | omega | (simp; done) | (simp; omega)) ?_ | with_reducible refine bel_grown (by assumption) (by first | omega | (simp; done) | (simp; omega)) (by first | omega | (simp; done) | (simp; omega)) ?_))⟩); (case measure => simp [intOf]; omega))
    · go_wp2
      go_ret
      obtain rfl : k = n := by omega
      exact ⟨ret_int (by unfold szRs; rw [if_neg (by omega)]), hB⟩


/-! New lists of reviews -/
def c3 (x : Rv) (sv : Value) (m : Nat) : Value := if m = 0 then .int .i64 x.rid else if m = 1 then .int .i64 x.due else sv
def z3 (m : Nat) : Value := if m = 0 then .int .i64 0 else if m = 1 then .int .i64 0 else .slice none 0 0
def vrow (R : Nat → Rv) (G : Nat → Nat) (j : Nat) : Value := .slice (some ⟨G j, 0, none⟩) (R j).n (R j).n
/-- The value v is a new slice of the reviews R; the votes of each lie in a row of their own. -/
def FRs (lo hi : Nat) (w : World) (v : Value) (n : Nat) (R : Nat → Rv) : Prop :=
  ∃ (g : Nat) (G : Nat → Nat), v = .slice (some ⟨g, 0, none⟩) n n ∧ lo ≤ g ∧ g < hi ∧ n ≤ 1048576 ∧ w.rowIs g 27 (n * 3) (fun i => c3 (R (i / 3)) (vrow R G (i / 3)) (i % 3)) ∧
    (∀ j, j < n → g < G j ∧ G j < hi ∧ (R j).n ≤ 1048576 ∧ w.rowIs (G j) 3 (R j).n (fun i => .int .i64 ((R j).f i))) ∧ ∀ i j, i < j → j < n → G i < G j
theorem FRs.rrs {lo hi : Nat} {w : World} {v : Value} {n : Nat} {R : Nat → Rv} (h : FRs lo hi w v n R) : RRs w v n R := by
  obtain ⟨g, G, rfl, _, _, hn, hr, hs, _⟩ := h
  refine ⟨_, _, rfl, fun h0 => ⟨g, 0, rfl, hr.lt, fun j hj => ⟨vrow R G j, (WI.row (hs j hj).2.2.1 (hs j hj).2.2.2).si, ?_, ?_, ?_⟩⟩, Nat.le_refl _, by omega⟩
  · have := hr.cell (i := j * 3) (by omega)
    rw [Nat.mul_mod_left, Nat.mul_div_cancel _ (by omega)] at this
    simpa [c3] using this
  · have := hr.cell (i := j * 3 + 1) (by omega)
    rw [show (j * 3 + 1) / 3 = j by omega, show (j * 3 + 1) % 3 = 1 by omega] at this
    simpa [c3] using this
  · have := hr.cell (i := j * 3 + 2) (by omega)
    rw [show (j * 3 + 2) / 3 = j by omega, show (j * 3 + 2) % 3 = 2 by omega] at this
    simpa [c3] using this
theorem FRs.below {lo hi : Nat} {w w' : World} {v : Value} {n : Nat} {R : Nat → Rv} (hb : Below w.heap.size w w') (h : FRs lo hi w v n R) : FRs lo hi w' v n R := by
  obtain ⟨g, G, rfl, h1, h2, hn, hr, hs, hi⟩ := h
  exact ⟨g, G, rfl, h1, h2, hn, hr.of_block (hb.block g hr.lt), fun j hj => ⟨(hs j hj).1, (hs j hj).2.1, (hs j hj).2.2.1, (hs j hj).2.2.2.of_block (hb.block _ (hs j hj).2.2.2.lt)⟩, hi⟩
theorem info_rev : (Try.prog.info? 27).map (fun i => (i.zero, i.size, i.bytes)) = some (some (.agg #[.int .i64 0, .int .i64 0, .slice none 0 0]), 3, 40) := by kernel_rfl
theorem make_rowN {P : Program} (t e : TypeId) (z : Value) (size bytes : Nat) (ht : P.underlying t = some (.slice e)) (hinfo : (P.info? e).map (fun i => (i.zero, i.size, i.bytes)) = some (some z, size, bytes))
    (n : Nat) (hbytes : bytes * n ≤ 281474976710656) (h63 : n ≤ 9223372036854775807) (w : World) :
    (Instr.makeSlice t (.int .i64 (n : Int)) (.int .i64 (n : Int))).run P w = .ok (.slice (some ⟨w.heap.size, 0, none⟩) n n) (w.alloc (.cells (madeCells z.cells (n * size)) e)) := by
  obtain ⟨i, hi, hzz⟩ := Option.map_eq_some_iff.1 hinfo
  simp only [Prod.mk.injEq] at hzz
  obtain ⟨hz, hs, hb⟩ := hzz
  have hb' : (i.bytes : Int) * (n : Int) ≤ 281474976710656 := by
    have h : ((i.bytes * n : Nat) : Int) ≤ 281474976710656 := by rw [hb]; omega
    rwa [Int.natCast_mul] at h
  have hr := run_make (P := P) w t e i z ht hi hz .i64 .i64 n n (by omega) (Int.le_refl _) hb' (by omega)
  simp only [Int.toNat_natCast, hs] at hr
  exact hr
theorem row3_made (w : World) (t : TypeId) (n : Nat) : (w.alloc (.cells (madeCells #[.int .i64 0, .int .i64 0, .slice none 0 0] (n * 3)) t)).rowIs w.heap.size t (n * 3) (fun i => z3 (i % 3)) := by
  have h := World.rowIs_alloc w (madeCells #[.int .i64 0, .int .i64 0, .slice none 0 0] (n * 3)) t (fun i => z3 (i % 3)) (fun i hi => by
    rw [size_madeCells] at hi
    have hm : i % 3 < 3 := Nat.mod_lt _ (by omega)
    simp only [madeCells, Array.getElem?_map, Array.getElem?_range, hi, if_true, Option.map_some]
    congr 1
    show (#[Value.int .i64 0, Value.int .i64 0, Value.slice none 0 0] : Array Value)[i % 3]! = z3 (i % 3)
    generalize i % 3 = m at *
    match m, hm with
    | 0, _ => rfl
    | 1, _ => rfl
    | 2, _ => rfl)
  rwa [size_madeCells] at h
theorem row3_step (R : Nat → Rv) (S : Nat → Value) (sv : Value) (k i : Nat) :
    (if i = k * 3 + 2 then sv else if i = k * 3 + 1 then .int .i64 (R k).due else if i = k * 3 then .int .i64 (R k).rid else if i < k * 3 then c3 (R (i / 3)) (S (i / 3)) (i % 3) else z3 (i % 3)) =
    if i < (k + 1) * 3 then c3 (R (i / 3)) (if i / 3 = k then sv else S (i / 3)) (i % 3) else z3 (i % 3) := by
  by_cases h2 : i = k * 3 + 2
  · subst h2
    rw [if_pos rfl, if_pos (by omega), show (k * 3 + 2) / 3 = k by omega, show (k * 3 + 2) % 3 = 2 by omega, if_pos rfl]; rfl
  rw [if_neg h2]
  by_cases h1 : i = k * 3 + 1
  · subst h1
    rw [if_pos rfl, if_pos (by omega), show (k * 3 + 1) / 3 = k by omega, show (k * 3 + 1) % 3 = 1 by omega]; rfl
  rw [if_neg h1]
  by_cases h0 : i = k * 3
  · subst h0
    rw [if_pos rfl, if_pos (by omega), show (k * 3) / 3 = k by omega, show (k * 3) % 3 = 0 by omega]; rfl
  rw [if_neg h0]
  by_cases hl : i < k * 3
  · rw [if_pos hl, if_pos (by omega), if_neg (by omega)]
  · rw [if_neg hl, if_neg (by omega)]

theorem C_toReviewS (v : Value) (n : Nat) (R : Nat → Rv) (w : World) (h : RRs w v n R) (hn : n ≤ 1048576) (hj : ∀ j, j < n → (R j).n ≤ 1048576) :
    Calls Try.prog 23 #[v] w fun e w' => ∃ v', e = .returned v' ∧ FRs w.heap.size w'.heap.size w' v' n R ∧ Below w.heap.size w w' := by
  obtain ⟨A, cap, rfl, hr, hc, hm⟩ := h
  have HR := Lib.hid hr; clear hr
  have HJ := Lib.hid hj; clear hj
  have hmk := make_rowN (P := Try.prog) 34 27 _ 3 40 Try.underlying34 info_rev n (by omega) (by omega)
  go_enter Try.func23, Try.ntmps23
  go_wp2
  go_loopw [4] (fun i wr => ∃ (k : Nat) (G : Nat → Nat), k ≤ n ∧ i = .int .i64 k ∧ wr.rowIs w.heap.size 27 (n * 3) (fun i => if i < k * 3 then c3 (R (i / 3)) (vrow R G (i / 3)) (i % 3) else z3 (i % 3)) ∧
    (∀ j, j < k → w.heap.size < G j ∧ G j < wr.heap.size ∧ wr.rowIs (G j) 3 (R j).n (fun i => .int .i64 ((R j).f i))) ∧ (∀ i j, i < j → j < k → G i < G j) ∧ Below w.heap.size w wr) (fun i _ => n - (intOf i).toNat)
  case atStart => exact ⟨0, fun _ => 0, Nat.zero_le _, rfl, (row3_made w _ n).congr (fun i hi => by simp), fun j hj => absurd hj (by omega), fun i j _ hj => absurd hj (by omega), by (repeat (first | with_reducible exact Below.refl _ _ | with_reducible exact below_regrown _ _ _ | with_reducible refine bel_step0 (by assumption) ?_ | with_reducible refine bel_alloc0 ?_ _ | with_reducible refine bel_regrown0 ?_ _ _ | with_reducible refine bel_regrown ?_ (by first | omega | (simp; done) | (simp; omega)) _ _ | with_reducible refine below_drewN ?_ _ | with_reducible refine Below.drew ?_ | with_reducible refine Below.alloc ?_ (by first | omega | (simp; done) | (simp; omega)) _ | with_reducible refine Below.setCell ?_ (by first | omega | (simp; done) | (simp; omega)) _ | with_reducible refine bel_step (by assumption) (by first | omega | (simp; done) | (simp; omega)) ?_ | with_reducible refine bel_grown (by assumption) (by first | omega | (simp; done) | (simp; omega)) (by first | omega | (simp; done) | (simp; omega)) ?_))⟩
  case round =>
    obtain ⟨k, G, hk, rfl, ha, hf, hG, hB⟩ := hrel; have hzB := hB.size
    have HA := Lib.hid ha
    have HF := Lib.hid hf; clear hf
    have HGG := Lib.hid hG; clear hG
    by_cases hlt : k < n
    · obtain ⟨b, off, rfl, hb, hcell⟩ := RRs.at_ hB HR.out (by omega)
      obtain ⟨sv, hsv, hck0, hck1, hck2⟩ := hcell k hlt; have hsv0 := hsv; obtain ⟨A1, c1, rfl, hsr1, hsc1, hsm1⟩ := hsv0; clear hsr1
      have hrr : RR wr (.agg #[.int .i64 (R k).rid, .int .i64 (R k).due, .slice A1 (R k).n c1]) (R k) := ⟨_, rfl, hsv⟩
      have hgl := ha.lt
      have ho0 := ha.cell (i := k * 3) (by omega)
      have ho1 := ha.cell (i := k * 3 + 1) (by omega)
      have ho2 := ha.cell (i := k * 3 + 2) (by omega)
      have hfr0 := ha.frozen (k * 3)
      have hfr1 := ha.frozen (k * 3 + 1)
      have hfr2 := ha.frozen (k * 3 + 2)
      clear hcell ha
      go_wp2_with (go_at_call 18; refine (C_toReviewF _ _ _ hrr (HJ.out k hlt)).mono ?_; rintro e w' ⟨v', rfl, hv', hb'⟩; obtain ⟨hc', hf'⟩ := bcell hb'; obtain ⟨sv, rfl, hfi⟩ := hv'; obtain ⟨g, rfl, hfi1, hfi2, hfi3⟩ := hfi; have HFI := Lib.hid hfi3; clear hfi3)
      go_roundw
      case rel =>
        have hgw : g < w'.heap.size := HFI.out.lt
        have hbs := hb'.size
        have hgne : g ≠ w.heap.size := by omega
        refine ⟨k + 1, fun j => if j = k then g else G j, by omega, by go_num, ?_, fun j hj => ?_, fun i j hij hj => ?_, by (repeat (first | with_reducible exact Below.refl _ _ | with_reducible exact below_regrown _ _ _ | with_reducible refine bel_step0 (by assumption) ?_ | with_reducible refine bel_alloc0 ?_ _ | with_reducible refine bel_regrown0 ?_ _ _ | with_reducible refine bel_regrown ?_ (by first | omega | (simp; done) | (simp; omega)) _ _ | with_reducible refine below_drewN ?_ _ | with_reducible refine Below.drew ?_ | with_reducible refine Below.alloc ?_ (by first | omega | (simp; done) | (simp; omega)) _ | with_reducible refine Below.setCell ?_ (by first | omega | (simp; done) | (simp; omega)) _ | with_reducible refine bel_step (by assumption) (by first | omega | (simp; done) | (simp; omega)) ?_ | with_reducible refine bel_grown (by assumption) (by first | omega | (simp; done) | (simp; omega)) (by first | omega | (simp; done) | (simp; omega)) ?_))⟩
        · have h3 := (((HA.out.of_block (hb'.block _ hgl)).set (k * 3) (.int .i64 (R k).rid)).set (k * 3 + 1) (.int .i64 (R k).due)).set (k * 3 + 2) (.slice (some ⟨g, 0, none⟩) (R k).n (R k).n)
          refine h3.congr fun i hi => ?_
          rw [row3_step R (vrow R G) _ k i]
          by_cases e : i < (k + 1) * 3
          · rw [if_pos e, if_pos e]
            congr 1
            unfold vrow
            by_cases e2 : i / 3 = k
            · simp only [e2, if_true]
            · simp only [if_neg e2]
          · rw [if_neg e, if_neg e]
        · by_cases e : j = k
          · subst e
            simp only [if_true]
            refine ⟨by omega, by simpa using hgw, ?_⟩
            exact ((HFI.out.setOther (by exact hgne) _).setOther (by exact hgne) _).setOther (by exact hgne) _
          · simp only [if_neg e]
            obtain ⟨f1, f2, f3⟩ := HF.out j (by omega)
            refine ⟨f1, by simp; omega, ?_⟩
            have hne : G j ≠ w.heap.size := by omega
            exact (((f3.of_block (hb'.block _ f2)).setOther (by exact hne) _).setOther (by exact hne) _).setOther (by exact hne) _
        · by_cases e : j = k
          · subst e
            simp only [if_true, if_neg (show ¬ i = j by omega)]
            have := (HF.out i hij).2.1
            omega
          · simp only [if_neg e, if_neg (show ¬ i = k by omega)]
            exact HGG.out i j hij (by omega)
      case measure => simp [intOf]; omega
    · clear ha
      go_wp2
      go_ret
      obtain rfl : k = n := by omega
      exact ⟨_, rfl, ⟨_, G, rfl, Nat.le_refl _, HA.out.lt, hn, HA.out.congr (fun i hi => by rw [if_pos hi]), fun j hj => ⟨(HF.out j hj).1, (HF.out j hj).2.1, HJ.out j hj, (HF.out j hj).2.2⟩, HGG.out⟩, hB⟩

end Go.Proofs.Ytcdffikambbleaa
