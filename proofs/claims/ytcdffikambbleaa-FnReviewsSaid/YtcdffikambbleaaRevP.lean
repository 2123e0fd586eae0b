/- Reviews that are put off. No condition but those stated. -/
import Derived.Test.YtcdffikambbleaaRevO
namespace Go.Proofs.Ytcdffikambbleaa
set_option linter.unusedVariables false
set_option linter.unusedSimpArgs false
open Go.RowKit Go.Sort
theorem verdict_lst (n : Nat) (f : Nat → Int) : verdict (lst n f).length (ai (lst n f)) = verdict n f := by
  unfold verdict
  rw [lst_length, anyB_congr (n := n) (p := fun j => ai (lst n f) j == 1) (q := fun j => f j == 1) (fun j hj => by rw [ai_lst f hj]),
    anyB_congr (n := n) (p := fun j => ai (lst n f) j == 3) (q := fun j => f j == 3) (fun j hj => by rw [ai_lst f hj])]
def putR (R : Nat → Rv) (d : Int) (j : Nat) : Rl := if verdict (R j).n (R j).f == 3 then ⟨(R j).rid, (R j).due + d, []⟩ else toL (R j)
def putTo (R : Nat → Rv) (d : Int) (k j : Nat) : Rl := if j < k then putR R d j else toL (R j)
def putOk (n : Nat) (R : Nat → Rv) (d : Int) : Bool := okRs n R && within d 1 1000 && okRs n (fun j => (putR R d j).rv)
theorem putTo_miss {R : Nat → Rv} {d : Int} {k : Nat} (h : (verdict (R k).n (R k).f == 3) = false) (j : Nat) : putTo R d k j = putTo R d (k + 1) j := by
  unfold putTo
  by_cases e : j = k
  · subst e; rw [if_neg (by omega), if_pos (by omega), putR, h]; rfl
  · by_cases e2 : j < k
    · rw [if_pos e2, if_pos (by omega)]
    · rw [if_neg e2, if_neg (by omega)]
theorem putTo_hit {R : Nat → Rv} {d : Int} {k : Nat} (h : (verdict (R k).n (R k).f == 3) = true) (j : Nat) :
    (if j = k then (⟨(putTo R d k k).rid, (R k).due + d, []⟩ : Rl) else putTo R d k j) = putTo R d (k + 1) j := by
  unfold putTo
  by_cases e : j = k
  · subst e; rw [if_pos rfl, if_neg (by omega), if_pos (by omega), putR, h]; rfl
  · rw [if_neg e]
    by_cases e2 : j < k
    · rw [if_pos e2, if_pos (by omega)]
    · rw [if_neg e2, if_neg (by omega)]
/-- The votes of one review are struck. -/
theorem OR.strike {base : Nat} {w : World} {n g cap k : Nat} {R : Nat → Rl} {S : Nat → Value} {F : Nat → Value} {d : Int} (hk : k < n) (h1 : own3 base w (.slice (some ⟨g, 0, none⟩) n cap) n F)
    (hF : ∀ i, i < n * 3 → i ≠ k * 3 + 2 → F i = if i = k * 3 + 1 then .int .i64 d else c3 (R (i / 3)).rv (S (i / 3)) (i % 3))
    (h2 : ∀ j, j < n → OI base w (S j) (R j).vs) (h3 : ∀ i j, i < n → j < n → i ≠ j → (S i).ownBlock = none ∨ (S i).ownBlock ≠ (S j).ownBlock) :
    OR base (w.setCell ⟨g, k * 3 + 2, none⟩ (.slice none 0 0)) (.slice (some ⟨g, 0, none⟩) n cap) n (fun j => if j = k then ⟨(R k).rid, d, []⟩ else R j) := by
  refine ⟨fun j => if j = k then .slice none 0 0 else S j, (h1.set (k * 3 + 2) (.slice none 0 0)).congr fun i hi => ?_, fun j hj => ?_, fun i j hi hj hij => ?_⟩
  · by_cases e2 : i = k * 3 + 2
    · subst e2
      rw [if_pos rfl]
      show _ = c3 (if (k * 3 + 2) / 3 = k then _ else _ : Rl).rv (if (k * 3 + 2) / 3 = k then _ else _) _
      rw [show (k * 3 + 2) / 3 = k by omega, show (k * 3 + 2) % 3 = 2 by omega, if_pos rfl, if_pos rfl]; rfl
    · rw [if_neg e2, hF i hi e2]
      show _ = c3 (if i / 3 = k then _ else _ : Rl).rv (if i / 3 = k then _ else _) _
      by_cases e1 : i = k * 3 + 1
      · subst e1
        rw [if_pos rfl, show (k * 3 + 1) / 3 = k by omega, show (k * 3 + 1) % 3 = 1 by omega, if_pos rfl, if_pos rfl]; rfl
      · rw [if_neg e1]
        by_cases e : i / 3 = k
        · have hm : i % 3 = 0 := by omega
          rw [if_pos e, if_pos e, hm, e]; rfl
        · rw [if_neg e, if_neg e]
  · by_cases e : j = k
    · subst e; simp only [if_true]; exact OI.nil _ _
    · simp only [if_neg e]
      exact (h2 j hj).of_block fun q hq => Below.heap_setCell _ _ _ _ (fun e => own_ne h1 (h2 j hj) rfl (by rw [hq, e]))
  · by_cases e : i = k
    · subst e; simp only [if_true]; exact .inl rfl
    · by_cases e2 : j = k
      · subst e2
        simp only [if_true, if_neg e]
        cases hS : (S i).ownBlock with
        | none => exact .inl rfl
        | some q => exact .inr (by simp [Value.ownBlock])
      · simp only [if_neg e, if_neg e2]
        exact h3 i j hi hj hij
theorem C_PutOffI (v : Value) (n : Nat) (R : Nat → Rv) (d : Int) (w : World) (h : RRs w v n R) :
    Calls Try.prog 45 #[v, .int .i64 d] w fun e w' => ∃ v', e = .returned (.tuple #[v', .bool (putOk n R d)]) ∧ OR w.heap.size w' v' (if putOk n R d then n else 0) (putR R d) ∧ Below w.heap.size w w' := by
  have hv := h
  obtain ⟨A0, cap0, rfl, hr, _, _⟩ := h
  clear hr
  have HV := Lib.hid hv; clear hv
  cases hok : okRs n R
  · have hco : putOk n R d = false := by simp [putOk, hok]
    rw [hco]
    simp only [Bool.false_eq_true, if_false]
    clear hco
    go_enter Try.func45, Try.ntmps45
    go_wp2_with (go_at_call 24; refine (C_AreReviewsI _ _ _ _ HV.out).mono ?_; rintro e w1 ⟨rfl, hb1⟩; simp only [hok])
    go_ret2
    have hbs := hb1.size
    exact ⟨_, rfl, OR.nil _ _ _, by (repeat (first | with_reducible exact Below.refl _ _ | with_reducible exact below_regrown _ _ _ | with_reducible refine bel_step0 (by assumption) ?_ | with_reducible refine bel_alloc0 ?_ _ | with_reducible refine bel_regrown0 ?_ _ _ | with_reducible refine bel_regrown ?_ (by first | omega | (simp; done) | (simp; omega)) _ _ | with_reducible refine below_drewN ?_ _ | with_reducible refine Below.drew ?_ | with_reducible refine Below.alloc ?_ (by first | omega | (simp; done) | (simp; omega)) _ | with_reducible refine Below.setCell ?_ (by first | omega | (simp; done) | (simp; omega)) _ | with_reducible refine bel_step (by assumption) (by first | omega | (simp; done) | (simp; omega)) ?_ | with_reducible refine bel_grown (by assumption) (by first | omega | (simp; done) | (simp; omega)) (by first | omega | (simp; done) | (simp; omega)) ?_))⟩
  cases hin : within d 1 1000
  · have hco : putOk n R d = false := by simp [putOk, hin]
    rw [hco]
    simp only [Bool.false_eq_true, if_false]
    clear hco
    go_enter Try.func45, Try.ntmps45
    go_wp2_with (first | (go_at_call 24; refine (C_AreReviewsI _ _ _ _ HV.out).mono ?_; rintro e w1 ⟨rfl, hb1⟩; simp only [hok]) | ((go_at_call 76; refine (C_within _ _ _ _).mono ?_; rintro e w' ⟨rfl, rfl⟩); simp only [hin]))
    go_ret2
    have hbs := hb1.size
    exact ⟨_, rfl, OR.nil _ _ _, by (repeat (first | with_reducible exact Below.refl _ _ | with_reducible exact below_regrown _ _ _ | with_reducible refine bel_step0 (by assumption) ?_ | with_reducible refine bel_alloc0 ?_ _ | with_reducible refine bel_regrown0 ?_ _ _ | with_reducible refine bel_regrown ?_ (by first | omega | (simp; done) | (simp; omega)) _ _ | with_reducible refine below_drewN ?_ _ | with_reducible refine Below.drew ?_ | with_reducible refine Below.alloc ?_ (by first | omega | (simp; done) | (simp; omega)) _ | with_reducible refine Below.setCell ?_ (by first | omega | (simp; done) | (simp; omega)) _ | with_reducible refine bel_step (by assumption) (by first | omega | (simp; done) | (simp; omega)) ?_ | with_reducible refine bel_grown (by assumption) (by first | omega | (simp; done) | (simp; omega)) (by first | omega | (simp; done) | (simp; omega)) ?_))⟩
  have hn := okRs_le hok
  have hj := okRs_votes hok
  have hdd : 1 ≤ d ∧ d ≤ 1000 := within_iff.1 hin
  obtain ⟨hd1, hd2⟩ := hdd
  have hdue : ∀ j, j < n → 0 ≤ (R j).due ∧ (R j).due ≤ 20000 := by
    intro j hj2
    have hg : allB n (goodB R) = true := by unfold okRs at hok; simp only [Bool.and_eq_true] at hok; exact hok.1
    have := allB_iff.1 hg j hj2
    unfold goodB Rv.ok at this
    simp only [Bool.and_eq_true] at this
    exact within_iff.1 this.1.1.1.2
  have HDUE := Lib.hid hdue; clear hdue
  obtain ⟨bo, hbo⟩ : ∃ b, putOk n R d = b := ⟨_, rfl⟩
  have hbo2 : okRs n (fun j => (putR R d j).rv) = bo := by rw [← hbo]; simp [putOk, hok, hin]
  rw [hbo]
  have HBO := Lib.hid hbo2; clear hbo hbo2
  go_enter Try.func45, Try.ntmps45
  go_wp2_with (first | (go_at_call 24; refine (C_AreReviewsI _ _ _ _ HV.out).mono ?_; rintro e w1 ⟨rfl, hb1⟩; simp only [hok]) | ((go_at_call 76; refine (C_within _ _ _ _).mono ?_; rintro e w' ⟨rfl, rfl⟩); simp only [hin]))
  refine (C_copyReviews _ _ _ _ (HV.out.below hb1) (by omega) (fun j hj' => by have := hj j hj'; omega)).mono ?_
  rintro e w2 ⟨v2, rfl, ho2, hb2⟩
  have hB2 := bel_step0 hb2 hb1
  have HO2 := Lib.hid (ho2.mono hb1.size)
  obtain ⟨S0, h1, _, _⟩ := HO2.out
  obtain ⟨A, cap, rfl, hc, hm, hA⟩ := h1.form
  have HB2 := Lib.hid hB2
  have HA := Lib.hid hA
  clear h1 hA hB2 hb2 hb1 ho2 hok hin
  go_wp2
  go_loopw [20] (fun i wr => ∃ k : Nat, k ≤ n ∧ i = .int .i64 k ∧ OR w.heap.size wr (.slice A n cap) n (putTo R d k) ∧ Below w.heap.size w wr) (fun i _ => n - (intOf i).toNat)
  case atStart => exact ⟨0, Nat.zero_le _, rfl, HO2.out.congr fun j _ => by unfold putTo; rw [if_neg (by omega)], HB2.out⟩
  case round =>
    obtain ⟨k, hk, rfl, ho, hB⟩ := hrel
    have HO := Lib.hid ho
    have HB := Lib.hid hB
    have hwl := hB.size
    by_cases hlt : k < n
    · obtain ⟨g, rfl, hg0, _⟩ := HA.out (by omega)
      obtain ⟨S, h1, h2, h3⟩ := ho
      have hgl := (h1.lt g rfl).2
      have e0 := h1.cell (i := k * 3) (by omega)
      have e1 := h1.cell (i := k * 3 + 1) (by omega)
      have e2 := h1.cell (i := k * 3 + 2) (by omega)
      rw [show (k * 3) / 3 = k by omega, show (k * 3) % 3 = 0 by omega] at e0
      rw [show (k * 3 + 1) / 3 = k by omega, show (k * 3 + 1) % 3 = 1 by omega] at e1
      rw [show (k * 3 + 2) / 3 = k by omega, show (k * 3 + 2) % 3 = 2 by omega] at e2
      have hck : putTo R d k k = toL (R k) := by unfold putTo; rw [if_neg (by omega)]
      have hc0 : wr.cell? ⟨g, k * 3, none⟩ = some (.int .i64 (R k).rid) := by rw [e0, hck]; rfl
      have hc1 : wr.cell? ⟨g, k * 3 + 1, none⟩ = some (.int .i64 (R k).due) := by rw [e1, hck]; rfl
      have hw0 := (h2 k hlt).wi
      obtain ⟨SA, sc, hSk, _, hsc⟩ := hw0
      rw [hck] at hSk hsc
      have hc2 : wr.cell? ⟨g, k * 3 + 2, none⟩ = some (.slice SA (toL (R k)).vs.length sc) := by rw [e2]; show some (S k) = _; rw [hSk]
      have hsi : SI wr (.slice SA (toL (R k)).vs.length sc) (toL (R k)).vs.length (ai (toL (R k)).vs) := by have := (h2 k hlt).wi.si; rw [hSk, hck] at this; exact this
      have hvd : verdict (toL (R k)).vs.length (ai (toL (R k)).vs) = verdict (R k).n (R k).f := verdict_lst _ _
      obtain ⟨L, hL⟩ : ∃ L, (toL (R k)).vs.length = L := ⟨_, rfl⟩
      rw [hL] at hc2 hsi hsc hvd
      have hf0 := h1.frozen (k * 3)
      have hf1 := h1.frozen (k * 3 + 1)
      have hf2 := h1.frozen (k * 3 + 2)
      obtain ⟨hs1, hs2⟩ := hsc
      have HA1 := Lib.hid (And.intro h1 (And.intro h2 h3))
      have HSI := Lib.hid hsi
      have HVD := Lib.hid hvd
      obtain ⟨hu1, hu2⟩ := HDUE.out k hlt
      clear h1 h2 h3 hL hSk e0 e1 e2 hck hj hB hsi hvd
      cases hm2 : verdict (R k).n (R k).f == 3
      · have HM := Lib.hid hm2
        go_wp2_with (go_at_call 79; refine (C_verdictFor _ _ _ _ (by first | exact HSI.out | exact HSI.out.below ((Below.refl _ _).alloc (Nat.le_refl _) _))).mono ?_; rintro e w' ⟨rfl, rfl⟩; simp only [HVD.out])
        go_roundw
        case rel => exact ⟨k + 1, by omega, by go_num, OR.congr (by first | exact HO.out | exact HO.out.below ((Below.refl _ _).alloc (Nat.le_refl _) _)) fun j _ => putTo_miss HM.out j, by have := HB.out; (repeat (first | with_reducible exact Below.refl _ _ | with_reducible exact below_regrown _ _ _ | with_reducible refine bel_step0 (by assumption) ?_ | with_reducible refine bel_alloc0 ?_ _ | with_reducible refine bel_regrown0 ?_ _ _ | with_reducible refine bel_regrown ?_ (by first | omega | (simp; done) | (simp; omega)) _ _ | with_reducible refine below_drewN ?_ _ | with_reducible refine Below.drew ?_ | with_reducible refine Below.alloc ?_ (by first | omega | (simp; done) | (simp; omega)) _ | with_reducible refine Below.setCell ?_ (by first | omega | (simp; done) | (simp; omega)) _ | with_reducible refine bel_step (by assumption) (by first | omega | (simp; done) | (simp; omega)) ?_ | with_reducible refine bel_grown (by assumption) (by first | omega | (simp; done) | (simp; omega)) (by first | omega | (simp; done) | (simp; omega)) ?_))⟩
        case measure => simp [intOf]; omega
      · have HM := Lib.hid hm2
        go_wp2_with (go_at_call 79; refine (C_verdictFor _ _ _ _ (by first | exact HSI.out | exact HSI.out.below ((Below.refl _ _).alloc (Nat.le_refl _) _))).mono ?_; rintro e w' ⟨rfl, rfl⟩; simp only [HVD.out])
        go_roundw
        case rel =>
          have hck : putTo R d k k = toL (R k) := by unfold putTo; rw [if_neg (by omega)]
          obtain ⟨h1, h2, h3⟩ := HA1.out
          have hng : ∀ j, j < n → (S j).ownBlock ≠ some g := fun j hj => own_ne h1 (h2 j hj) rfl
          have keep : ∀ i u W, True ∨ W = W → ∀ j, j < n → OI w.heap.size W (S j) (putTo R d k j).vs → OI w.heap.size (W.setCell ⟨g, i, none⟩ u) (S j) (putTo R d k j).vs := fun i u W _ j hj h =>
            h.of_block fun q hq => Below.heap_setCell _ _ _ _ (fun e => hng j hj (by rw [hq, e]))
          have hput := OR.strike (R := putTo R d k) (d := (R k).due + d) hlt (h1.set (k * 3 + 1) (.int .i64 ((R k).due + d))) (fun i hi hne => rfl) (fun j hj => keep _ _ _ (.inr rfl) j hj (h2 j hj)) h3
          exact ⟨k + 1, by omega, by go_num, hput.congr fun j _ => putTo_hit HM.out j, (HB.out.setCell (by exact hg0) _).setCell (by exact hg0) _⟩
        case measure => simp [intOf]; omega
    · clear ho hB hj
      obtain rfl : k = n := by omega
      have ho := HO.out
      have HR1 := Lib.hid (ho.congr (T := putR R d) fun j hj => by unfold putTo; rw [if_pos hj])
      clear ho
      go_wp2_with (go_at_call 24; refine (C_AreReviewsI _ _ _ _ HR1.out.rrs).mono ?_; rintro e w1 ⟨rfl, hb1⟩; rw [HBO.out]; have HP := Lib.hid (HR1.out.below hb1); have HB1 := Lib.hid (bel_step0 hb1 HB.out); clear hb1; cases bo)
      all_goals go_wp2
      all_goals go_ret2
      all_goals first
        | exact ⟨_, rfl, HP.out, HB1.out⟩
        | exact ⟨_, rfl, OR.empty HB1.out.size _, HB1.out.alloc HB1.out.size _⟩
        | exact ⟨_, rfl, OR.nil _ _ _, HB1.out⟩
theorem C_PutOffS (v : Value) (n : Nat) (R : Nat → Rv) (d : Int) (w : World) (h : RRs w v n R) :
    Calls Try.prog 44 #[v, .int .i64 d] w fun e w' => ∃ v', e = .returned (.tuple #[v', .bool (putOk n R d)]) ∧ OR w.heap.size w' v' (if putOk n R d then n else 0) (putR R d) ∧ Below w.heap.size w w' := by
  have hv := h
  obtain ⟨A0, cap0, rfl, hr, _, _⟩ := h
  clear hr
  have HV := Lib.hid hv; clear hv
  cases hok : okRs n R
  · have hco : putOk n R d = false := by simp [putOk, hok]
    rw [hco]
    simp only [Bool.false_eq_true, if_false]
    clear hco
    go_enter Try.func44, Try.ntmps44
    go_wp2_with (go_at_call 77; refine (C_l23Good _ _ _ _ HV.out).mono ?_; rintro e w1 ⟨rfl, hb1⟩; simp only [hok])
    go_ret2
    have hbs := hb1.size
    exact ⟨_, rfl, (OR.empty (Nat.le_refl _) _).mono hbs, by (repeat (first | with_reducible exact Below.refl _ _ | with_reducible exact below_regrown _ _ _ | with_reducible refine bel_step0 (by assumption) ?_ | with_reducible refine bel_alloc0 ?_ _ | with_reducible refine bel_regrown0 ?_ _ _ | with_reducible refine bel_regrown ?_ (by first | omega | (simp; done) | (simp; omega)) _ _ | with_reducible refine below_drewN ?_ _ | with_reducible refine Below.drew ?_ | with_reducible refine Below.alloc ?_ (by first | omega | (simp; done) | (simp; omega)) _ | with_reducible refine Below.setCell ?_ (by first | omega | (simp; done) | (simp; omega)) _ | with_reducible refine bel_step (by assumption) (by first | omega | (simp; done) | (simp; omega)) ?_ | with_reducible refine bel_grown (by assumption) (by first | omega | (simp; done) | (simp; omega)) (by first | omega | (simp; done) | (simp; omega)) ?_))⟩
  cases hin : within d 1 1000
  · have hco : putOk n R d = false := by simp [putOk, hin]
    rw [hco]
    simp only [Bool.false_eq_true, if_false]
    clear hco
    go_enter Try.func44, Try.ntmps44
    go_wp2_with (first | (go_at_call 77; refine (C_l23Good _ _ _ _ HV.out).mono ?_; rintro e w1 ⟨rfl, hb1⟩; simp only [hok]) | ((go_at_call 87; refine (C_l1In _ _ _ _).mono ?_; rintro e w' ⟨rfl, rfl⟩); simp only [hin]))
    go_ret2
    have hbs := hb1.size
    exact ⟨_, rfl, (OR.empty (Nat.le_refl _) _).mono hbs, by (repeat (first | with_reducible exact Below.refl _ _ | with_reducible exact below_regrown _ _ _ | with_reducible refine bel_step0 (by assumption) ?_ | with_reducible refine bel_alloc0 ?_ _ | with_reducible refine bel_regrown0 ?_ _ _ | with_reducible refine bel_regrown ?_ (by first | omega | (simp; done) | (simp; omega)) _ _ | with_reducible refine below_drewN ?_ _ | with_reducible refine Below.drew ?_ | with_reducible refine Below.alloc ?_ (by first | omega | (simp; done) | (simp; omega)) _ | with_reducible refine Below.setCell ?_ (by first | omega | (simp; done) | (simp; omega)) _ | with_reducible refine bel_step (by assumption) (by first | omega | (simp; done) | (simp; omega)) ?_ | with_reducible refine bel_grown (by assumption) (by first | omega | (simp; done) | (simp; omega)) (by first | omega | (simp; done) | (simp; omega)) ?_))⟩
  have hn := okRs_le hok
  have hj := okRs_votes hok
  have hdd : 1 ≤ d ∧ d ≤ 1000 := within_iff.1 hin
  obtain ⟨hd1, hd2⟩ := hdd
  have hdue : ∀ j, j < n → 0 ≤ (R j).due ∧ (R j).due ≤ 20000 := by
    intro j hj2
    have hg : allB n (goodB R) = true := by unfold okRs at hok; simp only [Bool.and_eq_true] at hok; exact hok.1
    have := allB_iff.1 hg j hj2
    unfold goodB Rv.ok at this
    simp only [Bool.and_eq_true] at this
    exact within_iff.1 this.1.1.1.2
  have HDUE := Lib.hid hdue; clear hdue
  obtain ⟨bo, hbo⟩ : ∃ b, putOk n R d = b := ⟨_, rfl⟩
  have hbo2 : okRs n (fun j => (putR R d j).rv) = bo := by rw [← hbo]; simp [putOk, hok, hin]
  rw [hbo]
  have HBO := Lib.hid hbo2; clear hbo hbo2
  go_enter Try.func44, Try.ntmps44
  go_wp2_with (first | (go_at_call 77; refine (C_l23Good _ _ _ _ HV.out).mono ?_; rintro e w1 ⟨rfl, hb1⟩; simp only [hok]) | ((go_at_call 87; refine (C_l1In _ _ _ _).mono ?_; rintro e w' ⟨rfl, rfl⟩); simp only [hin]))
  refine (C_l23Own _ _ _ _ (HV.out.below hb1) (by omega) (fun j hj' => by have := hj j hj'; omega)).mono ?_
  rintro e w2 ⟨v2, rfl, ho2, hb2⟩
  have hB2 := bel_step0 hb2 hb1
  have HO2 := Lib.hid (ho2.mono hb1.size)
  obtain ⟨S0, h1, _, _⟩ := HO2.out
  obtain ⟨A, cap, rfl, hc, hm, hA⟩ := h1.form
  have HB2 := Lib.hid hB2
  have HA := Lib.hid hA
  clear h1 hA hB2 hb2 hb1 ho2 hok hin
  go_wp2
  go_loopw [7] (fun i wr => ∃ k : Nat, k ≤ n ∧ i = .int .i64 k ∧ OR w.heap.size wr (.slice A n cap) n (putTo R d k) ∧ Below w.heap.size w wr) (fun i _ => n - (intOf i).toNat)
  case atStart => exact ⟨0, Nat.zero_le _, rfl, HO2.out.congr fun j _ => by unfold putTo; rw [if_neg (by omega)], HB2.out⟩
  case round =>
    obtain ⟨k, hk, rfl, ho, hB⟩ := hrel
    have HO := Lib.hid ho
    have HB := Lib.hid hB
    have hwl := hB.size
    by_cases hlt : k < n
    · obtain ⟨g, rfl, hg0, _⟩ := HA.out (by omega)
      obtain ⟨S, h1, h2, h3⟩ := ho
      have hgl := (h1.lt g rfl).2
      have e0 := h1.cell (i := k * 3) (by omega)
      have e1 := h1.cell (i := k * 3 + 1) (by omega)
      have e2 := h1.cell (i := k * 3 + 2) (by omega)
      rw [show (k * 3) / 3 = k by omega, show (k * 3) % 3 = 0 by omega] at e0
      rw [show (k * 3 + 1) / 3 = k by omega, show (k * 3 + 1) % 3 = 1 by omega] at e1
      rw [show (k * 3 + 2) / 3 = k by omega, show (k * 3 + 2) % 3 = 2 by omega] at e2
      have hck : putTo R d k k = toL (R k) := by unfold putTo; rw [if_neg (by omega)]
      have hc0 : wr.cell? ⟨g, k * 3, none⟩ = some (.int .i64 (R k).rid) := by rw [e0, hck]; rfl
      have hc1 : wr.cell? ⟨g, k * 3 + 1, none⟩ = some (.int .i64 (R k).due) := by rw [e1, hck]; rfl
      have hw0 := (h2 k hlt).wi
      obtain ⟨SA, sc, hSk, _, hsc⟩ := hw0
      rw [hck] at hSk hsc
      have hc2 : wr.cell? ⟨g, k * 3 + 2, none⟩ = some (.slice SA (toL (R k)).vs.length sc) := by rw [e2]; show some (S k) = _; rw [hSk]
      have hsi : SI wr (.slice SA (toL (R k)).vs.length sc) (toL (R k)).vs.length (ai (toL (R k)).vs) := by have := (h2 k hlt).wi.si; rw [hSk, hck] at this; exact this
      have hvd : verdict (toL (R k)).vs.length (ai (toL (R k)).vs) = verdict (R k).n (R k).f := verdict_lst _ _
      obtain ⟨L, hL⟩ : ∃ L, (toL (R k)).vs.length = L := ⟨_, rfl⟩
      rw [hL] at hc2 hsi hsc hvd
      have hf0 := h1.frozen (k * 3)
      have hf1 := h1.frozen (k * 3 + 1)
      have hf2 := h1.frozen (k * 3 + 2)
      obtain ⟨hs1, hs2⟩ := hsc
      have HA1 := Lib.hid (And.intro h1 (And.intro h2 h3))
      have HSI := Lib.hid hsi
      have HVD := Lib.hid hvd
      obtain ⟨hu1, hu2⟩ := HDUE.out k hlt
      clear h1 h2 h3 hL hSk e0 e1 e2 hck hj hB hsi hvd
      cases hm2 : verdict (R k).n (R k).f == 3
      · have HM := Lib.hid hm2
        go_wp2_with (go_at_call 78; refine (C_l23Verdict _ _ _ _ (by first | exact HSI.out | exact HSI.out.below ((Below.refl _ _).alloc (Nat.le_refl _) _))).mono ?_; rintro e w' ⟨rfl, rfl⟩; simp only [HVD.out])
        go_roundw
        case rel => exact ⟨k + 1, by omega, by go_num, OR.congr (by first | exact HO.out | exact HO.out.below ((Below.refl _ _).alloc (Nat.le_refl _) _)) fun j _ => putTo_miss HM.out j, by have := HB.out; (repeat (first | with_reducible exact Below.refl _ _ | with_reducible exact below_regrown _ _ _ | with_reducible refine bel_step0 (by assumption) ?_ | with_reducible refine bel_alloc0 ?_ _ | with_reducible refine bel_regrown0 ?_ _ _ | with_reducible refine bel_regrown ?_ (by first | omega | (simp; done) | (simp; omega)) _ _ | with_reducible refine below_drewN ?_ _ | with_reducible refine Below.drew ?_ | with_reducible refine Below.alloc ?_ (by first | omega | (simp; done) | (simp; omega)) _ | with_reducible refine Below.setCell ?_ (by first | omega | (simp; done) | (simp; omega)) _ | with_reducible refine bel_step (by assumption) (by first | omega | (simp; done) | (simp; omega)) ?_ | with_reducible refine bel_grown (by assumption) (by first | omega | (simp; done) | (simp; omega)) (by first | omega | (simp; done) | (simp; omega)) ?_))⟩
        case measure => simp [intOf]; omega
      · have HM := Lib.hid hm2
        go_wp2_with (go_at_call 78; refine (C_l23Verdict _ _ _ _ (by first | exact HSI.out | exact HSI.out.below ((Below.refl _ _).alloc (Nat.le_refl _) _))).mono ?_; rintro e w' ⟨rfl, rfl⟩; simp only [HVD.out])
        go_roundw
        case rel =>
          have hck : putTo R d k k = toL (R k) := by unfold putTo; rw [if_neg (by omega)]
          obtain ⟨h1, h2, h3⟩ := HA1.out
          have hng : ∀ j, j < n → (S j).ownBlock ≠ some g := fun j hj => own_ne h1 (h2 j hj) rfl
          have keep : ∀ i u W, True ∨ W = W → ∀ j, j < n → OI w.heap.size W (S j) (putTo R d k j).vs → OI w.heap.size (W.setCell ⟨g, i, none⟩ u) (S j) (putTo R d k j).vs := fun i u W _ j hj h =>
            h.of_block fun q hq => Below.heap_setCell _ _ _ _ (fun e => hng j hj (by rw [hq, e]))
          have hset := (h1.set (k * 3) (.int .i64 (R k).rid)).set (k * 3 + 1) (.int .i64 ((R k).due + d))
          have hput := OR.strike (R := putTo R d k) (d := (R k).due + d) hlt hset (fun i hi hne => by
            by_cases e : i = k * 3 + 1
            · rw [if_pos e, if_pos e]
            · rw [if_neg e, if_neg e]
              by_cases e0 : i = k * 3
              · subst e0
                rw [if_pos rfl, show (k * 3) / 3 = k by omega, show (k * 3) % 3 = 0 by omega, hck]; rfl
              · rw [if_neg e0]) (fun j hj => keep _ _ _ (.inr rfl) j hj (keep _ _ _ (.inr rfl) j hj (h2 j hj))) h3
          refine ⟨k + 1, by omega, by go_num, OR.below ((Below.refl _ _).alloc (Nat.le_refl _) _) (hput.congr fun j _ => putTo_hit HM.out j), ?_⟩
          exact (((HB.out.setCell (by exact hg0) _).setCell (by exact hg0) _).setCell (by exact hg0) _).alloc (by simpa using hwl) _
        case measure => simp [intOf]; omega
    · clear ho hB hj
      obtain rfl : k = n := by omega
      have ho := HO.out
      have HR1 := Lib.hid (ho.congr (T := putR R d) fun j hj => by unfold putTo; rw [if_pos hj])
      clear ho
      go_wp2_with (go_at_call 77; refine (C_l23Good _ _ _ _ HR1.out.rrs).mono ?_; rintro e w1 ⟨rfl, hb1⟩; rw [HBO.out]; have HP := Lib.hid (HR1.out.below hb1); have HB1 := Lib.hid (bel_step0 hb1 HB.out); clear hb1; cases bo)
      all_goals go_wp2
      all_goals go_ret2
      all_goals first
        | exact ⟨_, rfl, HP.out, HB1.out⟩
        | exact ⟨_, rfl, OR.empty HB1.out.size _, HB1.out.alloc HB1.out.size _⟩
        | exact ⟨_, rfl, OR.nil _ _ _, HB1.out⟩
end Go.Proofs.Ytcdffikambbleaa
