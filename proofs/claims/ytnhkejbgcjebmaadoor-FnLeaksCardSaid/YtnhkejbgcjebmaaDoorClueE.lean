/- Candidates of the program: the closure, the search, the deletion. No condition but those stated. -/
import Derived.Test.YtnhkejbgcjebmaaDoorClueD
import Derived.Deep.Upon
namespace Go.Proofs.YtnhkejbgcjebmaaDoor
set_option linter.unusedVariables false
set_option linter.unusedSimpArgs false
open Go.RowKit Go.Sort
/-- The block B holds the clue. -/
def clueAt (w : World) (B : Nat) (a b : Int) (s t : ByteArray) : Prop := B < w.heap.size ∧ w.cell? ⟨B, 0, none⟩ = some (.int .i64 a) ∧ w.cell? ⟨B, 1, none⟩ = some (.int .i64 b) ∧ w.cell? ⟨B, 2, none⟩ = some (.string s) ∧ w.cell? ⟨B, 3, none⟩ = some (.string t)
theorem clueAt.below {w w' : World} {B : Nat} {a b : Int} {s t : ByteArray} (hb : Below w.heap.size w w') (h : clueAt w B a b s t) : clueAt w' B a b s t :=
  ⟨Nat.lt_of_lt_of_le h.1 hb.size, (hb.cell (p := ⟨B, 0, none⟩) h.1).trans h.2.1, (hb.cell (p := ⟨B, 1, none⟩) h.1).trans h.2.2.1, (hb.cell (p := ⟨B, 2, none⟩) h.1).trans h.2.2.2.1, (hb.cell (p := ⟨B, 3, none⟩) h.1).trans h.2.2.2.2⟩
theorem clueAt.setCell {w : World} {B : Nat} {a b : Int} {s t : ByteArray} {p : Addr} (u : Value) (hp : p.block ≠ B) (h : clueAt w B a b s t) : clueAt (w.setCell p u) B a b s t := by
  obtain ⟨h0, h1, h2, h3, h4⟩ := h
  refine ⟨by simpa [World.setCell] using h0, ?_, ?_, ?_, ?_⟩
  all_goals (rw [World.cell?_setCell_other _ _ _ _ (by rintro rfl; exact hp rfl)]; assumption)
theorem C_cand1 (B : Nat) (a b : Int) (s t : ByteArray) (x : ByteArray) (w : World) (hx : wordB x = true) (h : clueAt w B a b s t) :
    Calls Tryd.prog 85 #[.string x, .pointer (some ⟨B, 0, none⟩)] w fun e w' => e = .returned (.bool (!fitB a b s t x)) ∧ Below w.heap.size w w' := by
  obtain ⟨h0, h1, h2, h3, h4⟩ := h
  go_enter Tryd.func85, Tryd.ntmps85
  go_wp2_with (go_at_call 86; refine (C_fits _ _ _ _ _ _ hx).mono ?_; rintro e w' ⟨rfl, hb'⟩)
  go_ret
  exact ⟨rfl, hb'⟩
theorem C_IndexFuncT (v : Value) (n : Nat) (f : Nat → ByteArray) (B : Nat) (a b : Int) (s t : ByteArray) (w : World) (h : TI w v n f) (hw : ∀ j, j < n → wordB (f j) = true) (hB0 : clueAt w B a b s t) :
    Calls Tryd.prog 82 #[v, .func (.func 85) #[] #[.pointer (some ⟨B, 0, none⟩)]] w fun e w' => e = .returned (.int .i64 (firstB n fun j => !fitB a b s t (f j))) ∧ Below w.heap.size w w' := by
  obtain ⟨A, cap, rfl, hr, hc, hm⟩ := h
  have HR := Lib.hid hr; clear hr
  have HW := Lib.hid hw; clear hw
  have HB0 := Lib.hid hB0; clear hB0
  obtain ⟨p, hp⟩ : ∃ p : Nat → Bool, (fun j => !fitB a b s t (f j)) = p := ⟨_, rfl⟩
  rw [hp]
  have HP := Lib.hid (fun j => congrFun hp j)
  clear hp
  go_enter Tryd.func82, Tryd.ntmps82
  go_wp2
  go_loopw [8] (fun i wr => ∃ k : Nat, k ≤ n ∧ i = .int .i64 k ∧ anyB k p = false ∧ Below w.heap.size w wr) (fun i _ => n - (intOf i).toNat)
  case atStart => exact ⟨0, Nat.zero_le _, rfl, rfl, Below.refl _ _⟩
  case round =>
    obtain ⟨k, hk, rfl, ha, hB⟩ := hrel
    have HA := Lib.hid ha; clear ha
    by_cases hlt : k < n
    · obtain ⟨bb, off, rfl, hb, hcell⟩ := (HR.out.below hB) (by omega)
      have hck := hcell k hlt
      have hpk : (!fitB a b s t (f k)) = p k := HP.out k
      have hC : Calls Tryd.prog 85 #[.string (f k), .pointer (some ⟨B, 0, none⟩)] wr fun e w' => e = .returned (.bool (p k)) ∧ Below wr.heap.size wr w' := (C_cand1 B a b s t (f k) _ (HW.out k hlt) (HB0.out.below hB)).mono fun e w' hh => ⟨hh.1.trans (by rw [hpk]), hh.2⟩
      have HC := Lib.hid hC
      clear hC
      clear hcell hpk
      cases hok : p k
      all_goals
        rw [hok] at HC
        go_wp2_with (go_at_call 85; refine HC.out.mono ?_; rintro e w' ⟨rfl, hb'⟩)
      · go_roundw
        case rel => exact ⟨k + 1, by omega, by go_num, anyB_next HA.out hok, by (repeat (first | with_reducible exact Below.refl _ _ | with_reducible exact below_regrown _ _ _ | with_reducible refine bel_step0 (by assumption) ?_ | with_reducible refine bel_alloc0 ?_ _ | with_reducible refine bel_regrown0 ?_ _ _ | with_reducible refine bel_regrown ?_ (by first | omega | (simp; done) | (simp; omega)) _ _ | with_reducible refine below_drewN ?_ _ | with_reducible refine Below.drew ?_ | with_reducible refine Below.alloc ?_ (by first | omega | (simp; done) | (simp; omega)) _ | with_reducible refine Below.setCell ?_ (by first | omega | (simp; done) | (simp; omega)) _ | with_reducible refine bel_step (by assumption) (by first | omega | (simp; done) | (simp; omega)) ?_ | with_reducible refine bel_grown (by assumption) (by first | omega | (simp; done) | (simp; omega)) (by first | omega | (simp; done) | (simp; omega)) ?_))⟩
        case measure => simp [intOf]; omega
      · go_ret
        exact ⟨ret_int (firstB_some hlt HA.out hok).symm, by (repeat (first | with_reducible exact Below.refl _ _ | with_reducible exact below_regrown _ _ _ | with_reducible refine bel_step0 (by assumption) ?_ | with_reducible refine bel_alloc0 ?_ _ | with_reducible refine bel_regrown0 ?_ _ _ | with_reducible refine bel_regrown ?_ (by first | omega | (simp; done) | (simp; omega)) _ _ | with_reducible refine below_drewN ?_ _ | with_reducible refine Below.drew ?_ | with_reducible refine Below.alloc ?_ (by first | omega | (simp; done) | (simp; omega)) _ | with_reducible refine Below.setCell ?_ (by first | omega | (simp; done) | (simp; omega)) _ | with_reducible refine bel_step (by assumption) (by first | omega | (simp; done) | (simp; omega)) ?_ | with_reducible refine bel_grown (by assumption) (by first | omega | (simp; done) | (simp; omega)) (by first | omega | (simp; done) | (simp; omega)) ?_))⟩
    · obtain rfl : k = n := by omega
      go_wp2
      go_ret
      exact ⟨ret_int (firstB_none HA.out).symm, hB⟩
theorem firstB_cases (n : Nat) (p : Nat → Bool) : (firstB n p = -1 ∧ ∀ j, j < n → p j = false) ∨ ∃ k, k < n ∧ firstB n p = (k : Int) ∧ (∀ j, j < k → p j = false) ∧ p k = true := by
  cases e : anyB n p with
  | false =>
    refine .inl ⟨firstB_none e, fun j hj => ?_⟩
    cases h : p j with
    | false => rfl
    | true => rw [anyB_of hj h] at e; cases e
  | true =>
    have hge : decide ((0 : Int) ≤ firstB n p) = true := by rw [firstB_ge]; exact e
    unfold firstB at hge ⊢
    cases hf : (List.range n).find? p with
    | none => rw [hf] at hge; simp at hge
    | some k =>
      rw [List.find?_range_eq_some] at hf
      refine .inr ⟨k, List.mem_range.1 hf.2.1, rfl, fun j hj => ?_, hf.1⟩
      have := hf.2.2 j hj
      simpa using this
set_option maxHeartbeats 4000000 in
theorem C_DeleteFuncT (lo hi : Nat) (v : Value) (n : Nat) (f : Nat → ByteArray) (B : Nat) (a b : Int) (s t : ByteArray) (w : World) (h : WT lo hi w v n f) (hn : n ≤ 1048576) (hw : ∀ j, j < n → wordB (f j) = true) (hB0 : clueAt w B a b s t) (hlo : B < lo) :
    Calls Tryd.prog 83 #[v, .func (.func 85) #[] #[.pointer (some ⟨B, 0, none⟩)]] w fun e w' =>
      ∃ v', e = .returned v' ∧ WT lo hi w' v' (cntB n fun j => fitB a b s t (f j)) (atT (pickT n f fun j => fitB a b s t (f j))) ∧ Chg lo hi w w' := by
  have hti := h.ti
  have HWT := Lib.hid h
  obtain ⟨A, cap, rfl, hr, hc, hm⟩ := h
  have HC1 := Lib.hid (C_IndexFuncT _ n f B a b s t w hti hw hB0)
  obtain ⟨q, hq⟩ : ∃ q : Nat → Bool, (fun j => fitB a b s t (f j)) = q := ⟨_, rfl⟩
  have hqe : (fun j => !fitB a b s t (f j)) = fun j => !q j := by rw [← hq]
  rw [hqe] at HC1
  rw [hq]
  have HQ := Lib.hid (fun j => congrFun hq j)
  have HW := Lib.hid hw
  have HR := Lib.hid hr
  have HB0 := Lib.hid hB0
  clear hq hqe hw hr hti hB0
  rcases firstB_cases n (fun j => !q j) with ⟨e1, hall⟩ | ⟨k0, hk0, e1, hpre, hdel⟩
  · have hall2 : ∀ j, j < n → q j = true := fun j hj => by simpa using hall j hj
    rw [e1] at HC1
    have HALL := Lib.hid hall2
    clear hall hall2 e1
    go_enter Tryd.func83, Tryd.ntmps83
    go_wp2_with (go_at_call 82; refine HC1.out.mono ?_; rintro e w' ⟨rfl, hb'⟩)
    go_ret
    refine ⟨_, rfl, ?_, Chg.of_below hb'⟩
    rw [cntB_all HALL.out, pickT_all HALL.out]
    exact (HWT.out.below hb').congr fun j hj => (atT_lst f hj).symm
  · have hpre2 : ∀ j, j < k0 → q j = true := fun j hj => by simpa using hpre j hj
    have hdel2 : q k0 = false := by simpa using hdel
    rw [e1] at HC1
    have hcnt : cntB (k0 + 1) q = k0 := by rw [cntB_no hdel2, cntB_all hpre2]
    have HCNT := Lib.hid hcnt
    have HPRE := Lib.hid hpre2
    clear hpre hdel e1 hcnt
    obtain ⟨bb, off, rfl, hb1, hb2, hb3, hrow⟩ := HR.out (by omega)
    have HROW := Lib.hid hrow
    clear hrow HR hpre2 hdel2
    have hne : bb ≠ B := by omega
    have hk1 : ((k0 : Int) == -1) = false := beq_eq_false_iff_ne.2 (by omega)
    go_enter Tryd.func83, Tryd.ntmps83
    go_wp2_with (go_at_call 82; refine HC1.out.mono ?_; rintro e w1 ⟨rfl, hb'⟩)
    go_loopw [5, 6, 7] (fun s5 s6 _ wr => ∃ i j : Nat, s5 = .int .i64 i ∧ s6 = .int .i64 j ∧ j ≤ n ∧ i < j ∧ i = cntB j q ∧ Chg lo hi w wr ∧ clueAt wr B a b s t ∧ bb < wr.heap.size ∧
      ∀ m, m < n → wr.cell? ⟨bb, off + m, none⟩ = some (.string (if m < i then atT (pickT n f q) m else f m)) ∧ wr.frozen? ⟨bb, off + m, none⟩ = false) (fun _ j _ _ => n - (intOf j).toNat)
    case atStart =>
      refine ⟨k0, k0 + 1, rfl, by go_num, by omega, by omega, HCNT.out.symm, Chg.of_below hb', HB0.out.below hb', Nat.lt_of_lt_of_le hb3 hb'.size, fun m hm => ?_⟩
      obtain ⟨c1, c2⟩ := HROW.out m hm
      refine ⟨(hb'.cell (p := ⟨bb, off + m, none⟩) hb3).trans (c1.trans ?_), (hb'.frozen (p := ⟨bb, off + m, none⟩) hb3).trans c2⟩
      by_cases hmk : m < k0
      · rw [if_pos hmk]
        have hm1 : q m = true := HPRE.out m hmk
        have hcm : cntB m q = m := cntB_all fun j hj => HPRE.out j (by omega)
        have := atT_pick (n := m) (m := n) (f := f) hm hm1
        rw [hcm] at this
        rw [this]
      · rw [if_neg hmk]
    case round =>
      obtain ⟨i, j, rfl, rfl, hj, hij, hi, hC, hBr, hbr, hrow⟩ := hrel
      have HROW := Lib.hid hrow
      have HI := Lib.hid hi
      have HC := Lib.hid hC
      have HBR := Lib.hid hBr
      by_cases hlt : j < n
      · obtain ⟨hcj, hfj⟩ := hrow j hlt
        obtain ⟨hci, hfi⟩ := hrow i (by omega)
        rw [if_neg (by omega)] at hcj
        rw [if_neg (by omega)] at hci
        have hqj : fitB a b s t (f j) = q j := HQ.out j
        have hCL : Calls Tryd.prog 85 #[.string (f j), .pointer (some ⟨B, 0, none⟩)] wr fun e w' => e = .returned (.bool (!q j)) ∧ Below wr.heap.size wr w' := (C_cand1 B a b s t (f j) _ (HW.out j hlt) hBr).mono fun e w' hh => ⟨hh.1.trans (by rw [hqj]), hh.2⟩
        have HCL := Lib.hid hCL
        clear hCL hrow hi hC hBr hqj
        cases hok : q j
        all_goals
          rw [hok] at HCL
          go_wp2_with (go_at_call 85; refine HCL.out.mono ?_; rintro e w2 ⟨rfl, hb2'⟩; have hci2 := (hb2'.cell (p := ⟨bb, off + i, none⟩) hbr).trans hci; have hfi2 := (hb2'.frozen (p := ⟨bb, off + i, none⟩) hbr).trans hfi)
        · go_roundw
          case rel =>
            refine ⟨i, j + 1, rfl, by go_num, by omega, by omega, by rw [cntB_no hok]; exact HI.out, HC.out.trans (Chg.of_below hb2'), HBR.out.below hb2', Nat.lt_of_lt_of_le hbr hb2'.size, fun m hm => ?_⟩
            obtain ⟨c1, c2⟩ := HROW.out m hm
            exact ⟨(hb2'.cell (p := ⟨bb, off + m, none⟩) hbr).trans c1, (hb2'.frozen (p := ⟨bb, off + m, none⟩) hbr).trans c2⟩
          case measure => simp [intOf]; omega
        · go_roundw
          case rel =>
            refine ⟨i + 1, j + 1, by go_num, by go_num, by omega, by omega, by rw [cntB_yes hok, ← HI.out], (HC.out.trans (Chg.of_below hb2')).setCell (p := ⟨bb, off + i, none⟩) hb1 hb2 _, (HBR.out.below hb2').setCell _ hne, by simpa [World.setCell] using Nat.lt_of_lt_of_le hbr hb2'.size, fun m hm => ?_⟩
            obtain ⟨c1, c2⟩ := HROW.out m hm
            have d1 := (hb2'.cell (p := ⟨bb, off + m, none⟩) hbr).trans c1
            have d2 := (hb2'.frozen (p := ⟨bb, off + m, none⟩) hbr).trans c2
            refine ⟨?_, by rw [World.frozen?_setCell]; exact d2⟩
            by_cases e : m = i
            · subst e
              rw [World.cell?_setCell_same _ _ _ d1, if_pos (by omega)]
              have := atT_pick (n := j) (m := n) (f := f) hlt hok
              rw [← HI.out] at this
              rw [this]
            · rw [World.cell?_setCell_other _ _ _ _ (by intro h; injection h with _ h _; omega), d1]
              by_cases e2 : m < i
              · rw [if_pos e2, if_pos (by omega)]
              · rw [if_neg e2, if_neg (by omega)]
          case measure => simp [intOf]; omega
      · obtain rfl : j = n := by omega
        have hcl : ∀ ty, (Builtin.clear_ #[36] ty #[.slice (some ⟨bb, off + i, none⟩) (j - i) (cap - i)]).run Tryd.prog wr = .ok (.tuple #[]) (wr.setCells bb (off + i) (List.replicate (j - i) (.string ByteArray.empty))) :=
          fun ty => Lib.run_clear_slice wr 36 9 ty (.string ByteArray.empty) Tryd.underlying36 Tryd.zeroValue9 rfl rfl bb (off + i) _ _ (by omega) (fun m hm => by rw [show off + i + m = off + (i + m) by omega, (hrow (i + m) (by omega)).1]; rfl) (fun m hm => by rw [show off + i + m = off + (i + m) by omega]; exact (hrow (i + m) (by omega)).2)
        clear hrow hi hC hBr
        have hic : i < cap := by omega
        go_wp2
        go_ret
        have hbs := Go.below_setCells (Nat.zero_le bb) (List.replicate (j - i) (.string ByteArray.empty)) (off + i) wr (Below.refl 0 wr)
        refine ⟨_, rfl, ⟨some ⟨bb, off, none⟩, cap, by show Value.slice (some ⟨bb, off, none⟩) i cap = _; rw [← HI.out], fun h0 => ⟨bb, off, rfl, hb1, hb2, Nat.lt_of_lt_of_le hbr hbs.size, fun m hm => ?_⟩, by rw [← HI.out]; omega, hm⟩, HC.out.trans ?_⟩
        · rw [← HI.out] at hm
          obtain ⟨c1, c2⟩ := HROW.out m (by omega)
          rw [if_pos hm] at c1
          exact ⟨by rw [World.cell?_setCells_out _ _ _ _ _ (fun _ _ => by simp; omega)]; exact c1, by rw [World.frozen?_setCells]; exact c2⟩
        · exact ⟨hbs.os, hbs.tape, hbs.output, hbs.size, fun k hk hk2 => World.heap_setCells_other _ _ _ _ hk (by omega)⟩
theorem C_candidates (v : Value) (n : Nat) (f : Nat → ByteArray) (a b : Int) (s t : ByteArray) (w : World) (h : TI w v n f) (hn : n ≤ 1048576) (hw : ∀ j, j < n → wordB (f j) = true) :
    Calls Tryd.prog 66 #[v, .agg #[.int .i64 a, .int .i64 b, .string s, .string t]] w fun e w' => ∃ v', e = .returned v' ∧ WT w.heap.size w'.heap.size w' v' (cntB n fun j => fitB a b s t (f j)) (atT (pickT n f fun j => fitB a b s t (f j))) ∧ Below w.heap.size w w' := by
  have HH := Lib.hid h
  obtain ⟨A, cap, rfl, hr, hc, hm⟩ := h
  clear hr
  have HW := Lib.hid hw; clear hw
  obtain ⟨w0, hw0⟩ : ∃ w0, w0 = w.alloc (.cells #[.int .i64 a, .int .i64 b, .string s, .string t] 29) := ⟨_, rfl⟩
  have hb0 : Below w.heap.size w w0 := by rw [hw0]; (repeat (first | with_reducible exact Below.refl _ _ | with_reducible exact below_regrown _ _ _ | with_reducible refine bel_step0 (by assumption) ?_ | with_reducible refine bel_alloc0 ?_ _ | with_reducible refine bel_regrown0 ?_ _ _ | with_reducible refine bel_regrown ?_ (by first | omega | (simp; done) | (simp; omega)) _ _ | with_reducible refine below_drewN ?_ _ | with_reducible refine Below.drew ?_ | with_reducible refine Below.alloc ?_ (by first | omega | (simp; done) | (simp; omega)) _ | with_reducible refine Below.setCell ?_ (by first | omega | (simp; done) | (simp; omega)) _ | with_reducible refine bel_step (by assumption) (by first | omega | (simp; done) | (simp; omega)) ?_ | with_reducible refine bel_grown (by assumption) (by first | omega | (simp; done) | (simp; omega)) (by first | omega | (simp; done) | (simp; omega)) ?_))
  have hz0 : w0.heap.size = w.heap.size + 1 := by rw [hw0]; simp
  have hcl : clueAt w0 w.heap.size a b s t := by rw [hw0]; exact ⟨by simp, by simp, by simp, by simp, by simp⟩
  have HW0 := Lib.hid hw0
  have HZ := Lib.hid hz0
  have HCL := Lib.hid hcl
  clear hw0 hz0 hcl
  go_enter Tryd.func66, Tryd.ntmps66
  go_wp2_with fail
  rw [← HW0.out]
  refine (C_CloneT _ _ _ _ (HH.out.below hb0) (by omega)).mono ?_; rintro e w1 ⟨v1, rfl, ho1, hb1⟩
  have hcl1 := Lib.hid (HCL.out.below hb1)
  have hw1 : WT w0.heap.size w1.heap.size w1 v1 n f := by
    have := ho1.wt
    rw [lstT_length] at this
    exact this.congr fun j hj => atT_lst f hj
  have HW1 := Lib.hid hw1
  have hs1 := hb1.size
  clear hw1 ho1
  go_wp2_with fail
  refine (C_DeleteFuncT _ _ _ _ _ _ _ _ _ _ _ HW1.out hn HW.out hcl1.out (by rw [HZ.out]; omega)).mono ?_; rintro e w2 ⟨v2, rfl, hv2, hc2⟩
  go_wp2_with fail
  go_ret
  refine ⟨_, rfl, hv2.mono (by rw [HZ.out]; omega) hc2.size, bel_chg hc2 (by rw [HZ.out]; omega) (bel_step0 hb1 hb0)⟩
end Go.Proofs.YtnhkejbgcjebmaaDoor
