/- A vote that is cast. No condition but those stated. -/
import Derived.Test.YtcdffikambbleaaRevL
namespace Go.Proofs.Ytcdffikambbleaa
set_option linter.unusedVariables false
set_option linter.unusedSimpArgs false
open Go.RowKit Go.Sort
theorem firstB_ex {n : Nat} {p : Nat → Bool} (h : anyB n p = true) : ∃ k, k < n ∧ firstB n p = (k : Int) ∧ p k = true := by
  have : ∃ k, k < n ∧ anyB k p = false ∧ p k = true := by
    obtain ⟨j, hj, hp⟩ := anyB_iff.1 h
    clear h
    induction j using Nat.strongRecOn with
    | _ j ih =>
      cases ha : anyB j p with
      | false => exact ⟨j, hj, ha, hp⟩
      | true =>
        obtain ⟨i, hi, hpi⟩ := anyB_iff.1 ha
        exact ih i hi (by omega) hpi
  obtain ⟨k, hk, h0, h1⟩ := this
  exact ⟨k, hk, firstB_some hk h0 h1, h1⟩
theorem own3.mono {base base' : Nat} {w : World} {v : Value} {n : Nat} {F : Nat → Value} (hb : base' ≤ base) (h : own3 base w v n F) : own3 base' w v n F := by
  obtain ⟨xs, h1, h2⟩ := h
  refine ⟨xs, ⟨h1.1, ?_⟩, h2⟩
  rcases h1.2 with h0 | ⟨g, cap, cur, e, h3, h4⟩
  · exact .inl h0
  · exact .inr ⟨g, cap, cur, e, by omega, h4⟩
theorem OR.mono {base base' : Nat} {w : World} {v : Value} {n : Nat} {R : Nat → Rl} (hb : base' ≤ base) (h : OR base w v n R) : OR base' w v n R := by
  obtain ⟨S, h1, h2, h3⟩ := h
  exact ⟨S, h1.mono hb, fun j hj => (h2 j hj).mono hb, h3⟩
/-- The row of one review's votes is put in the place of another. -/
theorem OR.put' {base : Nat} {w w1 : World} {n g cap k : Nat} {R : Nat → Rl} {S : Nat → Value} {u : Value} {x : Int} (hk : k < n)
    (h2 : ∀ j, j < n → OI base w (S j) (R j).vs) (h3 : ∀ i j, i < n → j < n → i ≠ j → (S i).ownBlock = none ∨ (S i).ownBlock ≠ (S j).ownBlock)
    (o1 : own3 base w1 (.slice (some ⟨g, 0, none⟩) n cap) n (fun i => c3 (R (i / 3)).rv (S (i / 3)) (i % 3))) (hu : OI base w1 u ((R k).vs ++ [x]))
    (old : ∀ j, j < n → j ≠ k → OI base w1 (S j) (R j).vs) (hat : u.ownBlock = (S k).ownBlock ∨ u.ownBlock = some w.heap.size) :
    OR base (w1.setCell ⟨g, k * 3 + 2, none⟩ u) (.slice (some ⟨g, 0, none⟩) n cap) n (fun j => if j = k then ⟨(R k).rid, (R k).due, (R k).vs ++ [x]⟩ else R j) := by
  have hune : u.ownBlock ≠ some g := own_ne o1 hu rfl
  have keep : ∀ s xs, OI base w1 s xs → s.ownBlock ≠ some g → OI base (w1.setCell ⟨g, k * 3 + 2, none⟩ u) s xs := fun s xs h hn => h.of_block fun q hq => Below.heap_setCell _ _ _ _ (fun e => hn (by rw [hq, e]))
  refine ⟨fun j => if j = k then u else S j, (o1.set (k * 3 + 2) u).congr fun i hi => ?_, fun j hj => ?_, fun i j hi hj hij => ?_⟩
  · show (if i = k * 3 + 2 then u else c3 (R (i / 3)).rv (S (i / 3)) (i % 3)) = _
    rw [setv_step (fun j => (R j).rv) S u k i]
    by_cases e : i / 3 = k
    · simp only [e, if_true]; rfl
    · simp only [if_neg e]
  · by_cases e : j = k
    · subst e; simp only [if_true]; exact keep _ _ hu hune
    · simp only [if_neg e]; exact keep _ _ (old j hj e) (own_ne o1 (old j hj e) rfl)
  · by_cases e : i = k
    · subst e
      simp only [if_true, if_neg (fun h : j = i => hij h.symm)]
      cases hu' : u.ownBlock with
      | none => exact .inl rfl
      | some q =>
        refine .inr fun e => ?_
        rcases hat with h | h
        · rw [hu'] at h
          rcases h3 i j hi hj hij with h0 | h0
          · rw [h0] at h; cases h
          · exact h0 (h.symm.trans e)
        · rw [hu'] at h
          have := (World.ownsRow.lt (h2 j hj) q e.symm).2
          injection h with h
          omega
    · by_cases e2 : j = k
      · subst e2
        simp only [if_true, if_neg e]
        cases hS : (S i).ownBlock with
        | none => exact .inl rfl
        | some q =>
          refine .inr fun e => ?_
          rcases hat with h | h
          · rcases h3 i j hi hj hij with h0 | h0
            · rw [h0] at hS; cases hS
            · exact h0 (hS.trans (e.trans h))
          · have := (World.ownsRow.lt (h2 i hi) q hS).2
            rw [h] at e
            injection e with e
            omega
      · simp only [if_neg e, if_neg e2]
        exact h3 i j hi hj hij
theorem old_rows {base : Nat} {w w1 : World} {n k : Nat} {R : Nat → Rl} {S : Nat → Value} (hk : k < n) (h2 : ∀ j, j < n → OI base w (S j) (R j).vs)
    (h3 : ∀ i j, i < n → j < n → i ≠ j → (S i).ownBlock = none ∨ (S i).ownBlock ≠ (S j).ownBlock) (hg : w.grownBy w1 (S k).ownBlock) : ∀ j, j < n → j ≠ k → OI base w1 (S j) (R j).vs := fun j hj hjk => (h2 j hj).of_block fun q hq => hg.block q (World.ownsRow.lt (h2 j hj) q hq).2 (fun e => by
    rcases h3 j k hj hk hjk with h0 | h0
    · rw [h0] at hq; cases hq
    · exact h0 (hq.trans e))
theorem OR.put {base : Nat} {w w1 : World} {n g cap k : Nat} {R : Nat → Rl} {S : Nat → Value} {u : Value} {x : Int} (hk : k < n)
    (h1 : own3 base w (.slice (some ⟨g, 0, none⟩) n cap) n (fun i => c3 (R (i / 3)).rv (S (i / 3)) (i % 3))) (h2 : ∀ j, j < n → OI base w (S j) (R j).vs)
    (h3 : ∀ i j, i < n → j < n → i ≠ j → (S i).ownBlock = none ∨ (S i).ownBlock ≠ (S j).ownBlock) (hu : OI base w1 u ((R k).vs ++ [x])) (hg : w.grownBy w1 (S k).ownBlock) (hat : u.ownBlock = (S k).ownBlock ∨ u.ownBlock = some w.heap.size) :
    OR base (w1.setCell ⟨g, k * 3 + 2, none⟩ u) (.slice (some ⟨g, 0, none⟩) n cap) n (fun j => if j = k then ⟨(R k).rid, (R k).due, (R k).vs ++ [x]⟩ else R j) :=
  OR.put' hk h2 h3 (h1.of_block fun q hq => hg.block q (h1.lt q hq).2 (fun e => own_ne h1 (h2 k hk) rfl (by rw [← e]; exact hq ▸ rfl))) hu (old_rows hk h2 h3 hg) hat
theorem C_CastVoteI (v : Value) (n : Nat) (R : Nat → Rv) (r x : Int) (w : World) (h : RRs w v n R) :
    Calls Try.prog 42 #[v, .int .i64 r, .int .i64 x] w fun e w' => ∃ v', e = .returned (.tuple #[v', .bool (castOk n R r x)]) ∧ OR w.heap.size w' v' (if castOk n R r x then n else 0) (castR R r x) ∧ Below w.heap.size w w' := by
  have hv := h
  obtain ⟨A0, cap0, rfl, hr, _, _⟩ := h
  clear hr
  have HV := Lib.hid hv; clear hv
  cases hok : okRs n R
  · have hco : castOk n R r x = false := by simp [castOk, hok]
    rw [hco]
    simp only [Bool.false_eq_true, if_false]
    clear hco
    go_enter Try.func42, Try.ntmps42
    go_wp2_with (first | (go_at_call 89; refine (C_IndexFuncRev _ _ _ w.heap.size r _ (HV.out.below ((Below.refl _ _).alloc (Nat.le_refl _) _)) (by simp) (by simp)).mono ?_; rintro e w1 ⟨rfl, hb1⟩) | (go_at_call 24; refine (C_AreReviewsI _ _ _ _ ((HV.out.below ((Below.refl _ _).alloc (Nat.le_refl _) _)).below hb1)).mono ?_; rintro e w2 ⟨rfl, hb2⟩; simp only [hok]))
    go_ret2
    exact ⟨_, rfl, OR.nil _ _ _, by (repeat (first | with_reducible exact Below.refl _ _ | with_reducible exact below_regrown _ _ _ | with_reducible refine bel_step0 (by assumption) ?_ | with_reducible refine bel_alloc0 ?_ _ | with_reducible refine bel_regrown0 ?_ _ _ | with_reducible refine bel_regrown ?_ (by first | omega | (simp; done) | (simp; omega)) _ _ | with_reducible refine below_drewN ?_ _ | with_reducible refine Below.drew ?_ | with_reducible refine Below.alloc ?_ (by first | omega | (simp; done) | (simp; omega)) _ | with_reducible refine Below.setCell ?_ (by first | omega | (simp; done) | (simp; omega)) _ | with_reducible refine bel_step (by assumption) (by first | omega | (simp; done) | (simp; omega)) ?_ | with_reducible refine bel_grown (by assumption) (by first | omega | (simp; done) | (simp; omega)) (by first | omega | (simp; done) | (simp; omega)) ?_))⟩
  have hn := okRs_le hok
  have hj := okRs_votes hok
  have HOK := Lib.hid hok
  cases hany : anyB n (fun j => (R j).rid == r)
  · have hf := firstB_none hany
    have hco : castOk n R r x = false := by simp [castOk, hok, hany]
    rw [hco]
    simp only [Bool.false_eq_true, if_false]
    clear hco
    go_enter Try.func42, Try.ntmps42
    go_wp2_with (first | (go_at_call 89; refine (C_IndexFuncRev _ _ _ w.heap.size r _ (HV.out.below ((Below.refl _ _).alloc (Nat.le_refl _) _)) (by simp) (by simp)).mono ?_; rintro e w1 ⟨rfl, hb1⟩; simp only [hf]) | (go_at_call 24; refine (C_AreReviewsI _ _ _ _ ((HV.out.below ((Below.refl _ _).alloc (Nat.le_refl _) _)).below hb1)).mono ?_; rintro e w2 ⟨rfl, hb2⟩; simp only [hok]))
    go_ret2
    exact ⟨_, rfl, OR.nil _ _ _, by (repeat (first | with_reducible exact Below.refl _ _ | with_reducible exact below_regrown _ _ _ | with_reducible refine bel_step0 (by assumption) ?_ | with_reducible refine bel_alloc0 ?_ _ | with_reducible refine bel_regrown0 ?_ _ _ | with_reducible refine bel_regrown ?_ (by first | omega | (simp; done) | (simp; omega)) _ _ | with_reducible refine below_drewN ?_ _ | with_reducible refine Below.drew ?_ | with_reducible refine Below.alloc ?_ (by first | omega | (simp; done) | (simp; omega)) _ | with_reducible refine Below.setCell ?_ (by first | omega | (simp; done) | (simp; omega)) _ | with_reducible refine bel_step (by assumption) (by first | omega | (simp; done) | (simp; omega)) ?_ | with_reducible refine bel_grown (by assumption) (by first | omega | (simp; done) | (simp; omega)) (by first | omega | (simp; done) | (simp; omega)) ?_))⟩
  obtain ⟨k, hk, hf, hrk⟩ := firstB_ex hany
  rw [beq_iff_eq] at hrk
  have hk0 : (0 : Int) ≤ (k : Int) := by omega
  have hk1 : (k : Int) < (n : Int) := by omega
  obtain ⟨bo, hbo⟩ : ∃ b, castOk n R r x = b := ⟨_, rfl⟩
  rw [hbo]
  have HBO := Lib.hid hbo; clear hbo
  go_enter Try.func42, Try.ntmps42
  go_wp2_with (first | (go_at_call 89; refine (C_IndexFuncRev _ _ _ w.heap.size r _ (HV.out.below ((Below.refl _ _).alloc (Nat.le_refl _) _)) (by simp) (by simp)).mono ?_; rintro e w1 ⟨rfl, hb1⟩; simp only [hf]) | (go_at_call 24; refine (C_AreReviewsI _ _ _ _ ((HV.out.below ((Below.refl _ _).alloc (Nat.le_refl _) _)).below hb1)).mono ?_; rintro e w2 ⟨rfl, hb2⟩; simp only [hok]))
  have hB2 : Below w.heap.size w w2 := by (repeat (first | with_reducible exact Below.refl _ _ | with_reducible exact below_regrown _ _ _ | with_reducible refine bel_step0 (by assumption) ?_ | with_reducible refine bel_alloc0 ?_ _ | with_reducible refine bel_regrown0 ?_ _ _ | with_reducible refine bel_regrown ?_ (by first | omega | (simp; done) | (simp; omega)) _ _ | with_reducible refine below_drewN ?_ _ | with_reducible refine Below.drew ?_ | with_reducible refine Below.alloc ?_ (by first | omega | (simp; done) | (simp; omega)) _ | with_reducible refine Below.setCell ?_ (by first | omega | (simp; done) | (simp; omega)) _ | with_reducible refine bel_step (by assumption) (by first | omega | (simp; done) | (simp; omega)) ?_ | with_reducible refine bel_grown (by assumption) (by first | omega | (simp; done) | (simp; omega)) (by first | omega | (simp; done) | (simp; omega)) ?_))
  refine (C_copyReviews _ _ _ _ (HV.out.below hB2) (by omega) (fun j hj' => by have := hj j hj'; omega)).mono ?_
  rintro e w3 ⟨v3, rfl, ho3, hb3⟩
  have hB3 := bel_step0 hb3 hB2
  have ho3 := ho3.mono hB2.size
  obtain ⟨S, h1, h2, h3⟩ := ho3
  obtain ⟨A, cap, rfl, hc, hm, hA⟩ := h1.form
  obtain ⟨g, rfl, hg0, hgl⟩ := hA (by omega)
  have hck := h1.cell (i := k * 3 + 2) (by omega)
  rw [show (k * 3 + 2) / 3 = k by omega, show (k * 3 + 2) % 3 = 2 by omega] at hck
  have hfk := h1.frozen (k * 3 + 2)
  obtain ⟨SA, sc, hSk, _, hsc⟩ := (h2 k hk).wi
  have hoi : OI w.heap.size w3 (.slice SA (toL (R k)).vs.length sc) (toL (R k)).vs := by have := h2 k hk; rw [hSk] at this; exact this
  have hck2 : w3.cell? ⟨g, k * 3 + 2, none⟩ = some (.slice SA (toL (R k)).vs.length sc) := by rw [hck]; show some (S k) = _; rw [hSk]
  have hco : castOk n R r x = okRs n (fun j => (castR R r x j).rv) := by simp [castOk, hok, hany]
  have hvl : (toL (R k)).vs.length ≤ 1099511627776 := by show (lst _ _).length ≤ _; rw [lst_length]; have := hj k hk; omega
  have hat0 := okRs_at (x := x) hok hk hrk
  have hwl : w.heap.size ≤ w3.heap.size := hB3.size
  obtain ⟨L, hL⟩ : ∃ L, (toL (R k)).vs.length = L := ⟨_, rfl⟩
  rw [hL] at hck2 hoi hSk hvl
  have hsm : L ≤ sc ∧ sc ≤ 9223372036854775807 := by rw [← hL]; exact hsc
  obtain ⟨hsm1, hsm2⟩ := hsm
  have HNE := Lib.hid (show (some g : Option Nat) ≠ (Value.slice SA L sc).ownBlock from fun e => own_ne h1 hoi rfl e.symm)
  have HCK := Lib.hid hck2
  have HFK := Lib.hid hfk
  have HA1 := Lib.hid (And.intro h1 (And.intro h2 h3))
  have HOI := Lib.hid hoi
  have HCO := Lib.hid hco
  have HAT := Lib.hid hat0
  have HB3 := Lib.hid hB3
  have HL := Lib.hid hL
  have HSK := Lib.hid hSk
  clear h1 h2 h3 hoi hco hat0 hB3 hL hSk hck hsc hj hok hany hf hb1 hb2 hb3 hB2 ho3 hA
  rename_i left0 _ _ _ _ _ _ _
  go_wp2_with (at_builtin; refine wp_app1x _ rfl (.tmp 28) (.tmp 30) rfl w.heap.size (.slice SA L sc) (toL (R k)).vs rfl (HOI.out.alloc _) w3.heap.size x rfl (by simp) (by rw [HL.out]; exact hvl) (by simp; omega) ?_; intro v4 w4 ho4 hg4 hat4 hv4; obtain ⟨A4, c4, hv4⟩ := hv4; subst hv4; have HO4 := Lib.hid ho4; have HG4 := Lib.hid hg4; have HT4 := Lib.hid hat4; have hck4 : w4.cell? ⟨g, k * 3 + 2, none⟩ = some (.slice SA L sc) := (World.cell?_of_block (hg4.block g (by simp; omega) HNE.out)).trans (cell_old _ hgl HCK.out); have hfk4 : w4.frozen? ⟨g, k * 3 + 2, none⟩ = false := (World.frozen?_of_block (hg4.block g (by simp; omega) HNE.out)).trans ((((Below.refl _ _).alloc (Nat.le_refl _) _).frozen (p := ⟨g, k * 3 + 2, none⟩) hgl).trans HFK.out); clear ho4 hg4 hat4)
  have ho4 := HO4.out
  rw [show ((toL (R k)).vs ++ [x]).length = (toL (R k)).vs.length + 1 by simp] at ho4
  obtain ⟨h1, h2, h3⟩ := HA1.out
  have hw3a := (Below.refl w3.heap.size w3).alloc (Nat.le_refl _) (.cells #[.int .i64 x] 3)
  have hput := OR.put (R := fun j => toL (R j)) hk (h1.below hw3a) (fun j hj => (h2 j hj).below hw3a) h3 ho4 (by rw [HSK.out]; exact HG4.out) (by
    have hat := HT4.out
    rw [show ((toL (R k)).vs ++ [x]).length = (toL (R k)).vs.length + 1 by simp] at hat
    rw [HSK.out]; exact hat)
  have hput2 := OR.congr (T := castR R r x) hput (fun j hj => HAT.out j hj)
  have hB4 : Below w.heap.size w w4 := (HB3.out.alloc hwl _).grown HG4.out (by simp; omega) (fun q hq => (World.ownsRow.lt HOI.out q hq).1)
  have HB4 := Lib.hid (hB4.setCell (p := ⟨g, k * 3 + 2, none⟩) hg0 (.slice A4 ((toL (R k)).vs.length + 1) c4))
  have HPUT := Lib.hid hput2
  clear ho4 h1 h2 h3 hw3a hput hput2 hB4 hck2 hfk hck4 hfk4
  refine (C_AreReviewsI _ _ _ _ HPUT.out.rrs).mono ?_
  rintro e w5 ⟨rfl, hb5⟩
  have HB5 := Lib.hid (bel_step0 hb5 HB4.out)
  have HP5 := Lib.hid (HPUT.out.below hb5)
  rw [← HCO.out, HBO.out]
  clear hb5
  cases bo
  · go_wp2
    go_ret2
    exact ⟨_, rfl, OR.nil _ _ _, HB5.out⟩
  · go_wp2
    go_ret2
    exact ⟨_, rfl, HP5.out, HB5.out⟩

end Go.Proofs.Ytcdffikambbleaa
