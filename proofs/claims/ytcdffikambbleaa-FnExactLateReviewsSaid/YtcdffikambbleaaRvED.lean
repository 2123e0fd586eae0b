/- LateReviews: the program. No condition but those stated. -/
import Derived.Test.YtcdffikambbleaaRvEC
import Derived.Test.YtcdffikambbleaaRvDE
namespace Go.Proofs.Ytcdffikambbleaa
set_option linter.unusedVariables false
set_option linter.unusedSimpArgs false
open Go.RowKit Go.Sort
theorem lst_succ (n : Nat) (f : Nat → Int) : lst (n + 1) f = lst n f ++ [f n] := by unfold lst; rw [List.range_succ, List.map_append]; rfl
theorem lst_atE (l : List El) (f : El → Int) : lst l.length (fun q => f (atE l q)) = l.map f := by
  unfold lst
  apply List.ext_getElem
  · simp
  · intro j h1 h2
    rw [List.getElem_map, List.getElem_range, List.getElem_map, atE_get (by simpa using h2)]
theorem posE_map {α β : Type} [Inhabited α] [Inhabited β] (f : α → β) (lt : α → α → Bool) (lt' : β → β → Bool) (h : ∀ x y, lt x y = lt' (f x) (f y)) (l : List α) (x : α) : ∀ k, k ≤ l.length → posE lt l x k = posE lt' (l.map f) (f x) k := by
  intro k
  induction k with
  | zero => intro _; rfl
  | succ k ih =>
    intro hk
    have e : atE (l.map f) k = f (atE l k) := by rw [atE_get (by simp; omega), atE_get (by omega), List.getElem_map]
    rw [posE, posE, h, e, ih (by omega)]
theorem srtE_map {α β : Type} [Inhabited α] [Inhabited β] (f : α → β) (lt : α → α → Bool) (lt' : β → β → Bool) (h : ∀ x y, lt x y = lt' (f x) (f y)) (l : List α) : (srtE lt l).map f = srtE lt' (l.map f) := by
  have key : ∀ (l s : List α), (l.foldl (insE lt) s).map f = (l.map f).foldl (insE lt') (s.map f) := by
    intro l
    induction l with
    | nil => intro s; rfl
    | cons x l ih =>
      intro s
      rw [List.foldl_cons, ih, List.map_cons, List.foldl_cons]
      congr 1
      unfold insE insAt
      rw [posE_map f lt lt' h s x _ (Nat.le_refl _), List.map_append, List.map_cons, List.map_take, List.map_drop, List.length_map]
  exact key l []
instance : Inhabited (Int × Int) := ⟨(0, 0)⟩
def ltP (x y : Int × Int) : Bool := decide (x.2 < y.2)
def El.pr (x : El) : Int × Int := (x.rid, x.due)
def lateB (x : Rv) (day : Int) : Bool := decide (x.due < day) && decide ((x.n : Int) < 3)
def lateP (R : Nat → Rv) (day : Int) : Nat → List (Int × Int)
  | 0 => []
  | k + 1 => lateP R day k ++ (if lateB (R k) day then [((R k).rid, (R k).due)] else [])
theorem lateP_le (R : Nat → Rv) (day : Int) (k : Nat) : (lateP R day k).length ≤ k := by
  induction k with
  | zero => exact Nat.le_refl _
  | succ k ih => simp only [lateP, List.length_append]; split <;> simp <;> omega
def lateOk (n : Nat) (R : Nat → Rv) (day : Int) : Bool := okRs n R && within day 0 20000
def late (n : Nat) (R : Nat → Rv) (day : Int) : List Int := if lateOk n R day then (srtE ltP (lateP R day n)).map (·.1) else []
theorem verdict_zero (n : Nat) (f : Nat → Int) : (verdict n f == 0) = decide ((n : Int) < 3) := by
  unfold verdict
  by_cases h : (n : Int) < 3
  · simp [h]
  · rw [if_neg h, decide_eq_false h]
    split
    · rfl
    · split <;> rfl
theorem OE.app {base : Nat} {w' : World} {v' : Value} {l : List El} {x : El} (h : own3 base w' v' (l.length + 1) (fun i => if i < l.length * 3 then cE (atE l (i / 3)) (i % 3) else cE x (i - l.length * 3))) : OE base w' v' (l ++ [x]) := by
  unfold OE
  rw [List.length_append, List.length_singleton]
  refine h.congr fun i hi => ?_
  by_cases e : i < l.length * 3
  · rw [if_pos e, atE_app_left (by omega)]
  · rw [if_neg e, atE_app_right (by omega), show i / 3 - l.length = 0 by omega, show i - l.length * 3 = i % 3 by omega]; rfl
theorem cE_one (x : El) (m : Nat) : (cE x m).oneCell' = true := by unfold cE; split <;> (try split) <;> rfl
theorem readsE {w : World} {B : Nat} {x : El} (h0 : w.cell? ⟨B, 0, none⟩ = some (.int .i64 x.rid)) (h1 : w.cell? ⟨B, 1, none⟩ = some (.int .i64 x.due)) (h2 : w.cell? ⟨B, 2, none⟩ = some (.slice x.A x.n x.c)) (hl : B < w.heap.size) :
    Reads w w.heap.size 3 (some ⟨B, 0, none⟩) 1 ((List.range (1 * 3)).map fun i => cE x i) :=
  reads3 (x := ⟨x.rid, x.due, 0, fun _ => 0⟩) (sv := .slice x.A x.n x.c) h0 h1 h2 hl
set_option maxRecDepth 100000 in
set_option maxHeartbeats 4000000 in
theorem C_LateReviewsI (v : Value) (n : Nat) (R : Nat → Rv) (day : Int) (w : World) (h : RRs w v n R) :
    Calls Try.prog 59 #[v, .int .i64 day] w fun e w' => ∃ v', e = .returned (.tuple #[v', .bool (lateOk n R day)]) ∧ OI w.heap.size w' v' (late n R day) ∧ Below w.heap.size w w' := by
  have hv := h
  obtain ⟨A, cap, rfl, hr, hc, hm⟩ := h
  have HV := Lib.hid hv; clear hv
  have HR := Lib.hid hr; clear hr
  cases hok : okRs n R
  · have hl : lateOk n R day = false := by unfold lateOk; rw [hok]; rfl
    have hl2 : late n R day = [] := by unfold late; rw [hl]; rfl
    rw [hl, hl2]
    go_enter Try.func59, Try.ntmps59
    go_wp2_with (go_at_call 24; refine (C_AreReviewsI _ _ _ _ HV.out).mono ?_; rintro e w1 ⟨rfl, hb1⟩; simp only [hok])
    go_ret2
    exact ⟨_, rfl, OI.nil _ _, hb1⟩
  cases hd : within day 0 20000
  · have hl : lateOk n R day = false := by unfold lateOk; rw [hok, hd]; rfl
    have hl2 : late n R day = [] := by unfold late; rw [hl]; rfl
    rw [hl, hl2]
    go_enter Try.func59, Try.ntmps59
    go_wp2_with (first | (go_at_call 24; refine (C_AreReviewsI _ _ _ _ HV.out).mono ?_; rintro e w1 ⟨rfl, hb1⟩; simp only [hok]) | (go_at_call 73; refine (C_isDay _ _).mono ?_; rintro e w2 ⟨rfl, rfl⟩; simp only [hd]))
    go_ret2
    exact ⟨_, rfl, OI.nil _ _, hb1⟩
  have hl : lateOk n R day = true := by unfold lateOk; rw [hok, hd]; rfl
  have hl2 : late n R day = (srtE ltP (lateP R day n)).map (·.1) := by unfold late; rw [hl]; rfl
  rw [hl, hl2]
  have hn10 := okRs_le hok
  clear hl hl2
  go_enter Try.func59, Try.ntmps59
  go_wp2_with (first | (go_at_call 24; refine (C_AreReviewsI _ _ _ _ HV.out).mono ?_; rintro e w1 ⟨rfl, hb1⟩; simp only [hok]) | (go_at_call 73; refine (C_isDay _ _).mono ?_; rintro e w2 ⟨rfl, rfl⟩; simp only [hd]))
  have HB1 := Lib.hid hb1
  clear hb1 hok hd
  go_loopw [6, 22] (fun o i wr => ∃ (k : Nat) (l : List El), k ≤ n ∧ i = .int .i64 k ∧ OE w.heap.size wr o l ∧ l.map El.pr = lateP R day k ∧ Below w.heap.size w wr) (fun _ i _ => n - (intOf i).toNat)
  case atStart => exact ⟨0, [], Nat.zero_le _, rfl, OE.nil _ _, rfl, HB1.out⟩
  case round =>
    clear HB1
    obtain ⟨k, l, hk, rfl, ho, hlp, hB⟩ := hrel
    have hll : l.length ≤ k := by rw [← List.length_map (f := El.pr), hlp]; exact lateP_le R day k
    by_cases hlt : k < n
    · obtain ⟨b, off, rfl, hb, hcell⟩ := RRs.at_ hB HR.out (by omega)
      obtain ⟨sv, hsv, hck0, hck1, hck2⟩ := hcell k hlt; have hsv0 := hsv; obtain ⟨A1, c1, rfl, hsr1, hsc1, hsm1⟩ := hsv0; clear hsr1
      have hk0 : (0 : Int) ≤ (k : Int) := by omega
      have hk1 : (k : Int) < (n : Int) := by omega
      have HSV := Lib.hid hsv
      have HB := Lib.hid hB
      have HO := Lib.hid ho
      have hzs := hB.size
      obtain ⟨z, hz⟩ : ∃ z, verdict (R k).n (R k).f = z := ⟨_, rfl⟩
      have hzz := verdict_zero (R k).n (R k).f
      rw [hz] at hzz
      have hstep : lateP R day (k + 1) = lateP R day k ++ (if lateB (R k) day then [((R k).rid, (R k).due)] else []) := rfl
      have HZ := Lib.hid hz
      clear hcell hsv hB ho hz
      have e0 : lateB (R k) day = (decide ((R k).due < day) && (z == 0)) := by rw [hzz]; rfl
      rw [e0] at hstep
      clear e0 hzz
      by_cases hdue : (R k).due < day
      · cases hzb : (z == 0)
        · have HST := Lib.hid (show lateP R day (k + 1) = lateP R day k by rw [hstep, hzb]; simp)
          clear hstep
          go_wp2_with (go_at_call 79; refine (C_verdictFor _ _ _ _ (HSV.out.below (by (repeat (first | with_reducible exact Below.refl _ _ | with_reducible exact below_regrown _ _ _ | with_reducible refine bel_step0 (by assumption) ?_ | with_reducible refine bel_alloc0 ?_ _ | with_reducible refine bel_regrown0 ?_ _ _ | with_reducible refine bel_regrown ?_ (by first | omega | (simp; done) | (simp; omega)) _ _ | with_reducible refine below_drewN ?_ _ | with_reducible refine Below.drew ?_ | with_reducible refine Below.alloc ?_ (by first | omega | (simp; done) | (simp; omega)) _ | with_reducible refine Below.setCell ?_ (by first | omega | (simp; done) | (simp; omega)) _ | with_reducible refine bel_step (by assumption) (by first | omega | (simp; done) | (simp; omega)) ?_ | with_reducible refine bel_grown (by assumption) (by first | omega | (simp; done) | (simp; omega)) (by first | omega | (simp; done) | (simp; omega)) ?_))))).mono ?_; rintro e w2 ⟨rfl, rfl⟩; rw [HZ.out])
          go_roundw
          case rel => exact ⟨k + 1, l, by omega, by go_num, HO.out.alloc _, by rw [HST.out]; exact hlp, bel_alloc0 HB.out _⟩
          case measure => simp [intOf]; omega
        · have HST := Lib.hid (show lateP R day (k + 1) = lateP R day k ++ [((R k).rid, (R k).due)] by rw [hstep, hzb]; simp [hdue])
          have HLP := Lib.hid hlp
          clear hstep hlp
          have HOD := Lib.hid ((HO.out.alloc (.cells #[.int .i64 (R k).rid, .int .i64 (R k).due, .slice A1 (R k).n c1] 27)).alloc (.cells #[.int .i64 (R k).rid, .int .i64 (R k).due, .slice A1 (R k).n c1] 27))
          have hRD : Reads ((wr.alloc (.cells #[.int .i64 (R k).rid, .int .i64 (R k).due, .slice A1 (R k).n c1] 27)).alloc (.cells #[.int .i64 (R k).rid, .int .i64 (R k).due, .slice A1 (R k).n c1] 27)) _ 3 (some ⟨wr.heap.size + 1, 0, none⟩) 1 _ := readsE (x := ⟨(R k).rid, (R k).due, A1, (R k).n, c1⟩) (cell_new' (by simp) rfl) (cell_new' (by simp) rfl) (cell_new' (by simp) rfl) (by simp)
          have HRD := Lib.hid hRD
          clear hRD
          go_wp2_with (first | (go_at_call 79; refine (C_verdictFor _ _ _ _ (HSV.out.below (by (repeat (first | with_reducible exact Below.refl _ _ | with_reducible exact below_regrown _ _ _ | with_reducible refine bel_step0 (by assumption) ?_ | with_reducible refine bel_alloc0 ?_ _ | with_reducible refine bel_regrown0 ?_ _ _ | with_reducible refine bel_regrown ?_ (by first | omega | (simp; done) | (simp; omega)) _ _ | with_reducible refine below_drewN ?_ _ | with_reducible refine Below.drew ?_ | with_reducible refine Below.alloc ?_ (by first | omega | (simp; done) | (simp; omega)) _ | with_reducible refine Below.setCell ?_ (by first | omega | (simp; done) | (simp; omega)) _ | with_reducible refine bel_step (by assumption) (by first | omega | (simp; done) | (simp; omega)) ?_ | with_reducible refine bel_grown (by assumption) (by first | omega | (simp; done) | (simp; omega)) (by first | omega | (simp; done) | (simp; omega)) ?_))))).mono ?_; rintro e w2 ⟨rfl, rfl⟩; rw [HZ.out]) | (at_builtin; refine wp_app3 _ rfl (.tmp 36) (.tmp 38) rfl w.heap.size _ l.length _ rfl HOD.out (some ⟨wr.heap.size + 1, 0, none⟩) 1 1 (fun i => cE ⟨(R k).rid, (R k).due, A1, (R k).n, c1⟩ i) rfl HRD.out (fun i hi => cE_one _ _) (by omega) (by simp; omega) ?_; intro v3 w3 ho3 hb3 hg3; have O3 := Lib.hid (OE.app ho3); have B3 := Lib.hid (Below.trans (bel_alloc0 (bel_alloc0 HB.out _) _) hb3); clear ho3 hb3 hg3))
          go_roundw
          case rel => exact ⟨k + 1, _, by omega, by go_num, O3.out, by rw [HST.out, List.map_append, HLP.out]; rfl, B3.out⟩
          case measure => simp [intOf]; omega
      · have HST := Lib.hid (show lateP R day (k + 1) = lateP R day k by rw [hstep]; simp [hdue])
        clear hstep
        go_wp2
        go_roundw
        case rel => exact ⟨k + 1, l, by omega, by go_num, HO.out.alloc _, by rw [HST.out]; exact hlp, bel_alloc0 HB.out _⟩
        case measure => simp [intOf]; omega
    · obtain rfl : k = n := by omega
      have HB := Lib.hid hB
      have HO := Lib.hid ho
      obtain ⟨s, hs⟩ : ∃ s, srtE ltE l = s := ⟨_, rfl⟩
      have hsl : s.length = l.length := by rw [← hs]; exact srtE_len _ _
      have hsm : s.map El.pr = srtE ltP (lateP R day k) := by rw [← hs, srtE_map El.pr ltE ltP (fun x y => rfl), hlp]
      have K := Lib.hid (C_SortStable w.heap.size _ l wr ho (by omega))
      rw [hs] at K
      obtain ⟨m, hml⟩ : ∃ m, l.length = m := ⟨_, rfl⟩
      obtain ⟨VA, vc, rfl, hvc, hvm, hVA⟩ := own3.form ho
      have hlt9 := own3.lt ho
      rw [hml] at hvc K hVA hsl hll HO hlt9 ⊢
      have HSM := Lib.hid hsm
      have HSL := Lib.hid hsl
      have HL9 := Lib.hid hlt9
      clear hB ho hs hsm hlp hml hlt hVA hsl hlt9
      go_wp2_with fail
      refine K.out.mono ?_; rintro e w5 ⟨rfl, ho5, hg5⟩
      have O5 := Lib.hid ho5
      have B5 := Lib.hid (HB.out.grown hg5 HB.out.size (fun q hq => (HL9.out q hq).1))
      clear ho5 hg5 K HO HL9
      go_wp2
      go_loopw [9, 45] (fun o i wi => ∃ j : Nat, j ≤ m ∧ i = .int .i64 j ∧ OI w5.heap.size wi o (lst j fun q => (atE s q).rid) ∧ Below w5.heap.size w5 wi) (fun _ i _ => m - (intOf i).toNat)
      case atStart => exact ⟨0, Nat.zero_le _, rfl, OI.nil _ _, Below.refl _ _⟩
      case round =>
        obtain ⟨j, hj, rfl, ho, hb⟩ := hrel
        have HOI := Lib.hid ho
        have HB6 := Lib.hid hb
        by_cases hlt : j < m
        · have ho6 := O5.out.below hb
          obtain ⟨A', c', e', _, _, hA'⟩ := own3.form ho6
          injection e' with e1 e2 e3
          have hsl := HSL.out
          obtain ⟨g, rfl, _, hgl⟩ := hA' (by rw [hsl]; omega)
          subst e1
          obtain ⟨c0, c1, c2⟩ := OE.cells ho6 (j := j) (by rw [hsl]; omega)
          obtain ⟨x, hx⟩ : ∃ x, atE s j = x := ⟨_, rfl⟩
          rw [hx] at c0 c1 c2
          have HX := Lib.hid hx
          have hj0 : (0 : Int) ≤ (j : Int) := by omega
          have hj1 : (j : Int) < (m : Int) := by omega
          have hz5 := hb.size
          have hz6 := B5.out.size
          have hjl : (lst j fun q => (atE s q).rid).length ≤ 1099511627776 := by rw [lst_length]; omega
          clear ho hb ho6 hA' hsl hx e2 e3
          have HOA := Lib.hid ((HOI.out.alloc (.cells #[.int .i64 x.rid, .int .i64 x.due, .slice x.A x.n x.c] 27)).alloc (.cells #[.int .i64 x.rid] 3))
          go_wp2_with (at_builtin; refine wp_app1 _ rfl (.tmp 49) (.tmp 52) rfl w5.heap.size _ _ rfl HOA.out (wr.heap.size + 1) x.rid rfl (by simp) hjl (by simp; omega) ?_; intro v7 w7 ho7 hb7; have O7 := Lib.hid ho7; have B7 := Lib.hid (Below.trans (bel_alloc0 (bel_alloc0 HB6.out _) _) hb7); clear ho7 hb7)
          go_roundw
          case rel => exact ⟨j + 1, by omega, by go_num, by rw [lst_succ, HX.out]; exact O7.out, B7.out⟩
          case measure => simp [intOf]; omega
        · obtain rfl : j = m := by omega
          clear ho hb
          go_wp2
          go_ret2
          refine ⟨_, rfl, ?_, bel_step0 HB6.out B5.out⟩
          have e : lst j (fun q => (atE s q).rid) = (srtE ltP (lateP R day k)).map (·.1) := by
            have h1 := lst_atE s El.rid
            rw [HSL.out] at h1
            rw [← HSM.out, List.map_map]
            exact h1
          rw [← e]
          exact HOI.out.mono B5.out.size
end Go.Proofs.Ytcdffikambbleaa
